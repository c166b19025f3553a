/-
  Parts of the proof: E1 E2 E3 J0 J2 K1 K2 J5 IP F1 J6 L8 E5 E6 OS J7 N3.
-/
import Derived.Test.YtpkijdkoiecpiaaGreatDoorChecked
import Derived.Test.YtpkijdkoiecpiaaGreatDoorZS1
import Derived.Test.YtpkijdkoiecpiaaGreatDoorZS8
import Derived.Test.YtpkijdkoiecpiaaGreatDoorZS15
namespace Go.Proofs.YtpkijdkoiecpiaaGreatDoor
open Go.RowKit
set_option linter.unusedVariables false
set_option linter.unusedSimpArgs false
def manyN (op:Int):Int:=if op = 0 ∨ 18 < op then -1 else if op ≤ 4 then 0 else if op ≤ 6 then 1 else if op = 18 then 3 else 2
set_option maxHeartbeats 400000 in
theorem many_c (op:Int) (w:World) :
  Calls Tryz.prog 295 #[.int .u8 op] w fun e w' => e = .returned (.int .i64 (manyN op)) ∧ w = w':=by
 go_enter Tryz.func295,Tryz.ntmps295
 go_wp2
 all_goals
  go_ret
  exact ⟨ret_int (by unfold manyN; simp_all; try omega),rfl⟩
def shapeB (x:Ex):Bool:=decide (manyN x.op = x.args.length ∧ 0 ≤ x.n ∧ (x.n = 0 ∨ x.op = 1))
def mayB:Nat → Ex → Bool
 | 0,_ => false
 | k + 1,x => shapeB x && x.args.all (mayB k)
theorem quiet_sym {P:Program} {f:FuncId} {args:Array Value} {w:World} {v:Value} (h:Calls P f args w fun e w' => e = .returned v ∧ w = w'):Calls P f args w fun e w' => e = .returned v ∧ w' = w :=
 h.mono fun _ _ ⟨he,hw⟩ => ⟨he,hw.symm⟩
set_option maxHeartbeats 1000000 in
theorem may_false (k:Nat) (x:Ex) (v:Value) (B:Nat) (w:World) (hv:ExAt w B v x) (h:shapeB x = false ∨ k = 0) (i:Int) (hi:i = (k:Int)) :
  Calls Tryz.prog 271 #[v, .int .i64 i] w fun e w' => e = .returned (.bool false) ∧ Below w.heap.size w w':=by
 obtain ⟨sv,rfl,hs⟩:=hv
 obtain ⟨a,cap,rfl,hcap,hm⟩:=hs.slice
 obtain ⟨op,n,l⟩:=x
 simp only [Ex.op,Ex.n,Ex.args] at *
 have hc:(manyN op != (l.length:Int)) = true ∨ (manyN op != (l.length:Int)) = false ∧ (decide (n < 0) = true ∨ decide (n < 0) = false ∧ (decide (0 < n) = true ∧ (op != 1) = true ∨
   (decide (0 < n) = true ∧ (op != 1) = false ∨ decide (0 < n) = false) ∧ (i == 0) = true)):=by
  have h' : ¬ (manyN op = l.length ∧ 0 ≤ n ∧ (n = 0 ∨ op = 1)) ∨ k = 0:=h.imp (fun h => of_decide_eq_false h) id
  simp only [bne_iff_ne,decide_eq_true_eq,bne_eq_false_iff_eq,decide_eq_false_iff_not,beq_iff_eq]
  omega
 clear h hs hi
 rcases hc with h1 | ⟨h1,h2 | ⟨h2,⟨h3,h4⟩ | ⟨⟨h3,h4⟩ | h3,h5⟩⟩⟩
 all_goals
  go_enter Tryz.func271,Tryz.ntmps271
  go_wp2
  go_quiet ((go_at_call 295; exact Calls.quiet_of_same (quiet_sym (many_c _ _))))
  go_wp2
  go_ret
  exact ⟨rfl,below_drewN ((Below.refl _ _).alloc (Nat.le_refl _) _) _⟩
set_option maxHeartbeats 1000000 in
theorem may_c (k:Nat):∀ (x:Ex) (v:Value) (B:Nat) (w:World) (i:Int),ExAt w B v x → i = (k:Int) → k ≤ 1000 → B ≤ w.heap.size →
  Calls Tryz.prog 271 #[v, .int .i64 i] w fun e w' => e = .returned (.bool (mayB k x)) ∧ Below w.heap.size w w':=by
 induction k with
 | zero => exact fun x v B w i hv hi _ _ => may_false 0 x v B w hv (.inr rfl) i hi
 | succ k ihk =>
  intro x v B w i hv hi hk hB
  cases hsh:shapeB x
  ·have hf:=may_false (k + 1) x v B w hv (.inl hsh) i hi
   exact hf.mono fun e w' ⟨he,hw⟩ => ⟨by rw [he]; simp only [mayB]; rw [hsh]; rfl,hw⟩
  ·have hm:Hid (mayB (k + 1) x = x.args.all (mayB k)):=by simp only [Hid,mayB]; rw [hsh,Bool.true_and]
   have hsh':manyN x.op = x.args.length ∧ 0 ≤ x.n ∧ (x.n = 0 ∨ x.op = 1):=of_decide_eq_true hsh
   obtain ⟨sv,rfl,hs⟩:=hv
   obtain ⟨a,cap,rfl,hcap,hmx⟩:=hs.slice
   obtain ⟨op,n,l⟩:=x
   simp only [Ex.op,Ex.n,Ex.args] at *
   have h1:(manyN op != (l.length:Int)) = false:=by simpa using hsh'.1
   have h2:decide (n < 0) = false:=by simp; omega
   have hl3:l.length ≤ 3:=by
    have:=hsh'.1
    unfold manyN at this
    repeat' split at this
    all_goals omega
   have h5:(i == 0) = false:=by simp; omega
   have h6:=IntWalk.i64_in (i - 1)
   have h7:0 ≤ i ∧ i ≤ 1000:=by omega
   obtain ⟨h71,h72⟩:=h7
   have hcase:(decide (0 < n) = true ∧ (op != 1) = false) ∨ decide (0 < n) = false:=by
    by_cases h0:0 < n
    ·have:op = 1:=by omega
     subst this; exact .inl ⟨by simpa using h0,rfl⟩
    ·exact .inr (by simpa using h0)
   have HS:=Lib.hid hs
   have IH:=Lib.hid ihk
   clear ihk
   have HI:=Lib.hid hi
   clear hsh' hsh hs hi
   rcases hcase with ⟨h3,h4⟩ | h3
   all_goals
    go_enter Tryz.func271,Tryz.ntmps271
    go_wp2
    go_quiet ((go_at_call 295; exact Calls.quiet_of_same (quiet_sym (many_c _ _))))
    go_wp2_with fail
    have hW:=below_drewN ((Below.refl w.heap.size w).alloc (Nat.le_refl _) (.cells #[.int .u8 op, .int .i64 n, .slice a l.length cap] 179)) nq
    generalize World.drewN (World.alloc w _) nq = W at *
    go_loopw [36] (fun q wr => ∃ j:Nat,q = .int .i64 j ∧ j ≤ l.length ∧ Below w.heap.size w wr ∧ (l.drop j).all (mayB k) = l.all (mayB k)) (fun q _ => l.length - (intOf q).toNat)
    case atStart => exact ⟨0,rfl,Nat.zero_le _,hW,rfl⟩
    case round =>
     obtain ⟨j,rfl,hj,hBr,hr⟩:=hrel
     by_cases hlt:j < l.length
     ·obtain ⟨b,off,cap',sv',e',hb',c0,c1,c2,hsub⟩:=((HS.out.mono hB).keep hBr).at_ j hlt
      simp only [Value.slice.injEq,true_and] at e'
      obtain ⟨rfl,rfl⟩:=e'
      obtain ⟨a2,cap2,rfl,_,_⟩:=hsub.slice
      rw [List.drop_eq_getElem_cons hlt,List.all_cons] at hr
      have hx:∀ X,Below wr.heap.size wr X → ExAt X X.heap.size (.agg #[.int .u8 (l[j]'hlt).op, .int .i64 (l[j]'hlt).n, .slice a2 (l[j]'hlt).args.length cap2]) (l[j]'hlt):=fun X hX => ⟨_,rfl,(hsub.keep (hX.mono hBr.size)).mono (Nat.le_trans hBr.size hX.size)⟩
      generalize l[j] = y at *
      have HX:=Lib.hid hx
      have HR:=Lib.hid hr
      clear hr hx hsub
      cases hy:mayB k y
      all_goals
       have HY:=Lib.hid hy
       clear hy
       go_wp2_with (go_at_call 271; refine (IH.out y _ _ _ _ (HX.out _ ((Below.refl _ _).alloc (Nat.le_refl _) _)) (by have:=HI.out; omega) (by omega) (Nat.le_refl _)).mono ?_; rintro e w3 ⟨rfl,hb3⟩; rw [HY.out])
      ·go_ret
       exact ⟨ret_bool (by rw [hm.out, ← HR.out,HY.out]; rfl),(hBr.alloc hBr.size _).trans (hb3.mono (by have:=hBr.size; simp; omega))⟩
      ·go_roundw
       case rel => exact ⟨j + 1,by go_num,by omega,(hBr.alloc hBr.size _).trans (hb3.mono (by have:=hBr.size; simp; omega)),by rw [← HR.out,HY.out,Bool.true_and]⟩
       case measure => simp [intOf]; omega
     ·rw [List.drop_of_length_le (by omega)] at hr
      have HR:=Lib.hid hr
      clear hr
      go_wp2
      go_ret
      exact ⟨ret_bool (by rw [hm.out, ← HR.out]; rfl),hBr⟩
mutual
def Ex.sameB:Ex → Ex → Bool
 | .mk o n l, .mk o' n' l' => decide (o = o') && (decide (n = n') && Exs.sameB l l')
def Exs.sameB:List Ex → List Ex → Bool
 | [],[] => true
 | x :: l,y :: m => x.sameB y && Exs.sameB l m
 | _,_ => false
end
theorem Exs.sameB_len:∀ (l m:List Ex),l.length ≠ m.length → Exs.sameB l m = false
 | [],[],h => absurd rfl h
 | [],_ :: _,_ => rfl
 | _ :: _,[],_ => rfl
 | x :: l,y :: m,h => by simp only [Exs.sameB]; rw [Exs.sameB_len l m (by simpa using h),Bool.and_false]
theorem Ex.sameB_eq (x y:Ex):x.sameB y = (decide (x.op = y.op) && (decide (x.n = y.n) && Exs.sameB x.args y.args)):=by
 obtain ⟨o,n,l⟩:=x; obtain ⟨o',n',l'⟩:=y; rfl
def SameC (h:Nat):Prop:=∀ (x y:Ex) (v u:Value) (B:Nat) (w:World),x.ht ≤ h → ExAt w B v x → ExAt w B u y → B ≤ w.heap.size →
 Calls Tryz.prog 125 #[v,u] w fun e w' => e = .returned (.bool (x.sameB y)) ∧ Below w.heap.size w w'
set_option maxHeartbeats 1000000 in
theorem eqFunc_c (h:Nat) (IH:Hid (SameC h)) (l m:List Ex) (hlh:∀ x ∈ l,x.ht ≤ h) (v u:Value) (B:Nat) (w:World) (hv:ArgsAt w B l v) (hu:ArgsAt w B m u) (hB:B ≤ w.heap.size) :
  Calls Tryz.prog 186 #[v,u, .func (.func 125) #[] #[]] w fun e w' => e = .returned (.bool (Exs.sameB l m)) ∧ Below w.heap.size w w':=by
 obtain ⟨a,cap,rfl,hcap,hmx⟩:=hv.slice
 obtain ⟨a',cap',rfl,hcap',hmx'⟩:=hu.slice
 by_cases hlen:l.length = m.length
 ·obtain ⟨n,hn⟩:∃ n,l.length = n:=⟨_,rfl⟩
  have hn':m.length = n:=by omega
  have HV:=Lib.hid hv
  have HU:=Lib.hid hu
  have HN:=Lib.hid hn
  have HN':=Lib.hid hn'
  have HLH:=Lib.hid hlh
  have hnm:n ≤ 9223372036854775807:=by unfold maxLen at hmx; omega
  rw [hn,hn']
  clear hv hu hlh hn hn' hlen
  go_enter Tryz.func186,Tryz.ntmps186
  go_wp2
  go_loopw [17] (fun q wr => ∃ j:Nat,q = .int .i64 j ∧ j ≤ n ∧ Below w.heap.size w wr ∧ Exs.sameB (l.drop j) (m.drop j) = Exs.sameB l m) (fun q _ => n - (intOf q).toNat)
  case atStart => exact ⟨0,rfl,Nat.zero_le _,Below.refl _ _,rfl⟩
  case round =>
   obtain ⟨j,rfl,hj,hBr,hr⟩:=hrel
   by_cases hlt:j < n
   ·have hj1:j < l.length:=by have:=HN.out; omega
    have hj2:j < m.length:=by have:=HN'.out; omega
    obtain ⟨b,off,cp,sv,e1,hb,c0,c1,c2,hsub⟩:=((HV.out.mono hB).keep hBr).at_ j hj1
    obtain ⟨b',off',cp',sv',e2,hb',d0,d1,d2,hsub'⟩:=((HU.out.mono hB).keep hBr).at_ j hj2
    rw [HN.out] at e1
    rw [HN'.out] at e2
    simp only [Value.slice.injEq,true_and] at e1 e2
    obtain ⟨rfl,rfl⟩:=e1
    obtain ⟨rfl,rfl⟩:=e2
    obtain ⟨a2,cap2,rfl,_,_⟩:=hsub.slice
    obtain ⟨a3,cap3,rfl,_,_⟩:=hsub'.slice
    rw [List.drop_eq_getElem_cons hj1,List.drop_eq_getElem_cons hj2] at hr
    simp only [Exs.sameB] at hr
    have hbw:=Nat.lt_of_lt_of_le hb hBr.size
    have hbw':=Nat.lt_of_lt_of_le hb' hBr.size
    have hht:=HLH.out _ (List.getElem_mem hj1)
    have hx:∀ X,Below wr.heap.size wr X → ExAt X X.heap.size (.agg #[.int .u8 (l[j]'hj1).op, .int .i64 (l[j]'hj1).n, .slice a2 (l[j]'hj1).args.length cap2]) (l[j]'hj1):=fun X hX => ⟨_,rfl,(hsub.keep (hX.mono hBr.size)).mono (Nat.le_trans hBr.size hX.size)⟩
    have hy:∀ X,Below wr.heap.size wr X → ExAt X X.heap.size (.agg #[.int .u8 (m[j]'hj2).op, .int .i64 (m[j]'hj2).n, .slice a3 (m[j]'hj2).args.length cap3]) (m[j]'hj2):=fun X hX => ⟨_,rfl,(hsub'.keep (hX.mono hBr.size)).mono (Nat.le_trans hBr.size hX.size)⟩
    generalize l[j] = x at *
    generalize m[j] = y at *
    have HX:=Lib.hid hx
    have HY:=Lib.hid hy
    have HR:=Lib.hid hr
    clear hr hx hy hsub hsub'
    cases hs:x.sameB y
    all_goals
     have HS:=Lib.hid hs
     clear hs
     go_wp2_with (go_at_call 125; refine (IH.out x y _ _ _ _ hht (HX.out _ (((Below.refl _ _).alloc (Nat.le_refl _) _).alloc (by simp) _)) (HY.out _ (((Below.refl _ _).alloc (Nat.le_refl _) _).alloc (by simp) _)) (Nat.le_refl _)).mono ?_; rintro e w3 ⟨rfl,hb3⟩; rw [HS.out])
    ·go_ret
     exact ⟨ret_bool (by rw [← HR.out,HS.out]; rfl),((hBr.alloc hBr.size _).alloc (by have:=hBr.size; simp; omega) _).trans (hb3.mono (by have:=hBr.size; simp; omega))⟩
    ·go_roundw
     case rel => exact ⟨j + 1,by go_num,by omega,((hBr.alloc hBr.size _).alloc (by have:=hBr.size; simp; omega) _).trans (hb3.mono (by have:=hBr.size; simp; omega)),by rw [← HR.out,HS.out,Bool.true_and]⟩
     case measure => simp [intOf]; omega
   ·rw [List.drop_of_length_le (by have:=HN.out; omega),List.drop_of_length_le (by have:=HN'.out; omega)] at hr
    have HR:=Lib.hid hr
    clear hr
    go_wp2
    go_ret
    exact ⟨ret_bool (by rw [← HR.out]; rfl),hBr⟩
 ·have hne:((l.length:Int) != (m.length:Int)) = true:=by rw [bne_iff_ne]; omega
  have HF:=Lib.hid (Exs.sameB_len l m hlen)
  clear hlen hv hu
  go_enter Tryz.func186,Tryz.ntmps186
  go_wp2
  go_ret
  exact ⟨ret_bool HF.out.symm,Below.refl _ _⟩
set_option maxHeartbeats 1000000 in
theorem same_step (h:Nat) (IH:Hid (∀ x y:Ex,x.ht < h → ∀ (v u:Value) (B:Nat) (w:World),ExAt w B v x → ExAt w B u y → B ≤ w.heap.size →
   Calls Tryz.prog 125 #[v,u] w fun e w' => e = .returned (.bool (x.sameB y)) ∧ Below w.heap.size w w')):SameC h:=by
 intro x y v u B w hh hv hu hB
 have IH2:Hid (∀ k,k + 1 = h → SameC k):=fun k hk x y v u B w hx => IH.out x y (by omega) v u B w
 have hargs:∀ a ∈ x.args,a.ht ≤ h - 1:=fun a ha => by have:=Ex.ht_args x a ha; omega
 have hpos:1 ≤ h:=by
  obtain ⟨o,n,l⟩:=x
  simp only [Ex.ht] at hh
  omega
 have HE:=Lib.hid (Ex.sameB_eq x y)
 obtain ⟨sv,rfl,hs⟩:=hv
 obtain ⟨su,rfl,ht⟩:=hu
 obtain ⟨a,cap,rfl,hcap,hmx⟩:=hs.slice
 obtain ⟨a',cap',rfl,hcap',hmx'⟩:=ht.slice
 have HS:=Lib.hid hs
 have HT:=Lib.hid ht
 have HA:=Lib.hid hargs
 generalize x.op = o at *
 generalize x.n = n at *
 generalize y.op = o' at *
 generalize y.n = n' at *
 clear hs ht hargs hh IH
 by_cases h1:o = o'
 ·by_cases h2:n = n'
  ·have hq1:(o == o') = true:=by simpa using h1
   have hq2:(n == n') = true:=by simpa using h2
   have HE2:Hid (x.sameB y = Exs.sameB x.args y.args):=by show _ = _; rw [HE.out,decide_eq_true h1,decide_eq_true h2]; rfl
   clear h1 h2 HE
   go_enter Tryz.func125,Tryz.ntmps125
   go_wp2_with (go_at_call 186; refine (eqFunc_c (h - 1) (IH2.out (h - 1) (by omega)) x.args y.args HA.out _ _ B _ (HS.out.keep (((Below.refl _ _).alloc hB _).alloc (by simp; omega) _)) (HT.out.keep (((Below.refl _ _).alloc hB _).alloc (by simp; omega) _)) (by simp; omega)).mono ?_; rintro e w3 ⟨rfl,hb3⟩)
   go_ret
   exact ⟨ret_bool HE2.out.symm,(((Below.refl _ _).alloc (Nat.le_refl _) _).alloc (by simp) _).trans (hb3.mono (by simp; omega))⟩
  ·have hq1:(o == o') = true:=by simpa using h1
   have hq2:(n == n') = false:=by simpa using h2
   have HE2:Hid (x.sameB y = false):=by show _ = _; rw [HE.out,decide_eq_false h2,Bool.false_and,Bool.and_false]
   clear h1 h2 HE
   go_enter Tryz.func125,Tryz.ntmps125
   go_wp2
   go_ret
   exact ⟨ret_bool HE2.out.symm,(((Below.refl _ _).alloc (Nat.le_refl _) _).alloc (by simp) _)⟩
 ·have hq1:(o == o') = false:=by simpa using h1
  have HE2:Hid (x.sameB y = false):=by show _ = _; rw [HE.out,decide_eq_false h1,Bool.false_and]
  clear h1 HE
  go_enter Tryz.func125,Tryz.ntmps125
  go_wp2
  go_ret
  exact ⟨ret_bool HE2.out.symm,(((Below.refl _ _).alloc (Nat.le_refl _) _).alloc (by simp) _)⟩
theorem same_all (h:Nat):SameC h:=by
 induction h using Nat.strongRecOn with
 | ind h ih => exact same_step h (fun x y hx v u B w hv hu hB => ih x.ht hx x y v u B w (Nat.le_refl _) hv hu hB)
theorem Same_c (x y:Ex) (v u:Value) (B:Nat) (w:World) (hv:ExAt w B v x) (hu:ExAt w B u y) (hB:B ≤ w.heap.size) :
  Calls Tryz.prog 125 #[v,u] w fun e w' => e = .returned (.bool (x.sameB y)) ∧ Below w.heap.size w w':=same_all x.ht x y v u B w (Nat.le_refl _) hv hu hB
def Ex.mayT (x:Ex):Bool:=mayB 16 x
set_option maxHeartbeats 400000 in
theorem May_c (x:Ex) (v:Value) (B:Nat) (w:World) (hv:ExAt w B v x) (hB:B ≤ w.heap.size) :
  Calls Tryz.prog 240 #[v] w fun e w' => e = .returned (.bool x.mayT) ∧ Below w.heap.size w w':=by
 obtain ⟨sv,rfl,hs⟩:=hv
 obtain ⟨a,cap,rfl,hcap,hmx⟩:=hs.slice
 have HV:Hid (ExAt w B _ x):=⟨_,rfl,hs⟩
 clear hs
 go_enter Tryz.func240,Tryz.ntmps240
 go_wp2_with (go_at_call 271; refine (may_c 16 x _ B _ _ (HV.out.keep ((Below.refl _ _).alloc hB _)) (by omega) (by omega) (by simp; omega)).mono ?_; rintro e w3 ⟨rfl,hb3⟩)
 go_ret
 exact ⟨rfl,((Below.refl _ _).alloc (Nat.le_refl _) _).trans (hb3.mono (by simp))⟩
mutual
def Ex.size:Ex → Nat
 | .mk _ _ l => min (Exs.size l 1) 2000
def Exs.size:List Ex → Nat → Nat
 | [],n => n
 | x :: l,n => Exs.size l (if n < 2000 then n + x.size else n)
end
theorem Ex.size_le (x:Ex):x.size ≤ 2000:=by obtain ⟨o,n,l⟩:=x; simp only [Ex.size]; omega
theorem Ex.size_eq (x:Ex):x.size = min (Exs.size x.args 1) 2000:=by obtain ⟨o,n,l⟩:=x; rfl
def SizeC (h:Nat):Prop:=∀ (x:Ex) (v:Value) (B:Nat) (w:World),x.ht ≤ h → ExAt w B v x → B ≤ w.heap.size →
 Calls Tryz.prog 114 #[v] w fun e w' => e = .returned (.int .i64 x.size) ∧ Below w.heap.size w w'
set_option maxHeartbeats 1000000 in
theorem size_step (h:Nat) (IH:Hid (∀ x:Ex,x.ht < h → ∀ (v:Value) (B:Nat) (w:World),ExAt w B v x → B ≤ w.heap.size →
   Calls Tryz.prog 114 #[v] w fun e w' => e = .returned (.int .i64 x.size) ∧ Below w.heap.size w w')):SizeC h:=by
 intro x v B w hh hv hB
 have HLT:Hid (∀ a ∈ x.args,a.ht < h):=fun a ha => by have:=Ex.ht_args x a ha; omega
 have HE:=Lib.hid (Ex.size_eq x)
 obtain ⟨sv,rfl,hs⟩:=hv
 obtain ⟨a,cap,rfl,hcap,hmx⟩:=hs.slice
 have HS:=Lib.hid hs
 have hlm:x.args.length ≤ 9223372036854775807:=by unfold maxLen at hmx; omega
 generalize x.op = o at *
 generalize x.n = n at *
 generalize x.args = l at *
 clear hs hh
 go_enter Tryz.func114,Tryz.ntmps114
 go_wp2
 have hW:=(Below.refl w.heap.size w).alloc (Nat.le_refl _) (.cells #[.int .u8 o, .int .i64 n, .slice a l.length cap] 179)
 generalize World.alloc w _ = W at *
 go_loopw [3,9] (fun s q wr => ∃ j m:Nat,q = .int .i64 j ∧ s = .int .i64 m ∧ j ≤ l.length ∧ m ≤ 4000 ∧ Below w.heap.size w wr ∧ Exs.size (l.drop j) m = Exs.size l 1) (fun _ q _ => l.length - (intOf q).toNat)
 case atStart => exact ⟨0,1,rfl,rfl,Nat.zero_le _,by omega,hW,rfl⟩
 case round =>
  obtain ⟨j,m,rfl,rfl,hj,hm,hBr,hr⟩:=hrel
  by_cases hlt:j < l.length
  ·obtain ⟨b,off,cp,sv,e1,hb,c0,c1,c2,hsub⟩:=((HS.out.mono hB).keep hBr).at_ j hlt
   simp only [Value.slice.injEq,true_and] at e1
   obtain ⟨rfl,rfl⟩:=e1
   obtain ⟨a2,cap2,rfl,_,_⟩:=hsub.slice
   rw [List.drop_eq_getElem_cons hlt] at hr
   simp only [Exs.size] at hr
   have hht:=HLT.out _ (List.getElem_mem hlt)
   have hx:∀ X,Below wr.heap.size wr X → ExAt X X.heap.size (.agg #[.int .u8 (l[j]'hlt).op, .int .i64 (l[j]'hlt).n, .slice a2 (l[j]'hlt).args.length cap2]) (l[j]'hlt):=fun X hX => ⟨_,rfl,(hsub.keep (hX.mono hBr.size)).mono (Nat.le_trans hBr.size hX.size)⟩
   have hsz:=Ex.size_le (l[j]'hlt)
   generalize l[j] = x at *
   have HX:=Lib.hid hx
   have HR:=Lib.hid hr
   clear hr hx hsub
   by_cases hm2:m < 2000
   ·have hm3:(m:Int) < 2000:=by omega
    go_wp2_with (go_at_call 114; refine (IH.out x hht _ _ _ (HX.out _ ((Below.refl _ _).alloc (Nat.le_refl _) _)) (Nat.le_refl _)).mono ?_; rintro e w3 ⟨rfl,hb3⟩)
    go_roundw
    case rel => exact ⟨j + 1,m + x.size,by go_num,by go_num,by omega,by omega,(hBr.alloc hBr.size _).trans (hb3.mono (by have:=hBr.size; simp; omega)),by rw [← HR.out,if_pos hm2]⟩
    case measure => simp [intOf]; omega
   ·have hm3 : ¬ (m:Int) < 2000:=by omega
    go_wp2
    go_roundw
    case rel => exact ⟨j + 1,m,by go_num,rfl,by omega,by omega,hBr.alloc hBr.size _,by rw [← HR.out,if_neg hm2]⟩
    case measure => simp [intOf]; omega
  ·rw [List.drop_of_length_le (by omega)] at hr
   simp only [Exs.size] at hr
   have HR:=Lib.hid hr
   clear hr
   go_wp2
   all_goals
    go_ret
    exact ⟨ret_int (by rw [HE.out, ← HR.out]; omega),hBr⟩
theorem size_all (h:Nat):SizeC h:=by
 induction h using Nat.strongRecOn with
 | ind h ih => exact size_step h (fun x hx v B w hv hB => ih x.ht hx x v B w (Nat.le_refl _) hv hB)
theorem Size_c (x:Ex) (v:Value) (B:Nat) (w:World) (hv:ExAt w B v x) (hB:B ≤ w.heap.size) :
  Calls Tryz.prog 114 #[v] w fun e w' => e = .returned (.int .i64 x.size) ∧ Below w.heap.size w w':=size_all x.ht x v B w (Nat.le_refl _) hv hB
structure Nd where
 uid:ByteArray
 kind:Int
 ins:List Int
 x:Ex
 n:Int
structure Jb where
 par:Int
 nodes:List Nd
def NdIn (w:World) (B:Nat) (iv sv:Value) (d:Nd):Prop:=Sl w B 1 iv d.ins.length (d.ins.map (Value.int .i64)) ∧ ArgsAt w B d.x.args sv
def NdAt (w:World) (B:Nat) (v:Value) (d:Nd):Prop :=
 ∃ iv sv,v = .agg #[.string d.uid, .int .u8 d.kind,iv, .int .u8 d.x.op, .int .i64 d.x.n,sv, .int .i64 d.n] ∧ NdIn w B iv sv d ∧ d.uid.size ≤ maxLen
def NodesAt (w:World) (B:Nat) (l:List Nd) (v:Value):Prop :=
 ∃ a cap,v = .slice a l.length cap ∧ l.length ≤ cap ∧ cap ≤ maxLen ∧ (l.length = 0 ∨ ∃ b off,a = some ⟨b,off,none⟩ ∧ b < B ∧ ∀ j (h:j < l.length),(l[j]'h).uid.size ≤ maxLen ∧ ∃ iv sv,
  w.cell? ⟨b,off + j * 7,none⟩ = some (.string (l[j]'h).uid) ∧ w.cell? ⟨b,off + j * 7 + 1,none⟩ = some (.int .u8 (l[j]'h).kind) ∧ w.cell? ⟨b,off + j * 7 + 2,none⟩ = some iv ∧
  w.cell? ⟨b,off + j * 7 + 3,none⟩ = some (.int .u8 (l[j]'h).x.op) ∧ w.cell? ⟨b,off + j * 7 + 4,none⟩ = some (.int .i64 (l[j]'h).x.n) ∧ w.cell? ⟨b,off + j * 7 + 5,none⟩ = some sv ∧
  w.cell? ⟨b,off + j * 7 + 6,none⟩ = some (.int .i64 (l[j]'h).n) ∧ NdIn w B iv sv (l[j]'h))
def JbAt (w:World) (B:Nat) (v:Value) (j:Jb):Prop:=∃ sv,v = .agg #[.int .i64 j.par,sv] ∧ NodesAt w B j.nodes sv
theorem NdIn.mono {w:World} {B C:Nat} {iv sv:Value} {d:Nd} (h:NdIn w B iv sv d) (hC:B ≤ C):NdIn w C iv sv d:=⟨h.1.mono hC,h.2.mono hC⟩
theorem NdIn.keep {w w':World} {B:Nat} {iv sv:Value} {d:Nd} (h:NdIn w B iv sv d) (hB:Below B w w'):NdIn w' B iv sv d:=⟨h.1.below hB,h.2.keep hB⟩
theorem NdAt.mono {w:World} {B C:Nat} {v:Value} {d:Nd} (h:NdAt w B v d) (hC:B ≤ C):NdAt w C v d:=let ⟨a,b,c,e,f⟩:=h; ⟨a,b,c,e.mono hC,f⟩
theorem NdAt.keep {w w':World} {B:Nat} {v:Value} {d:Nd} (h:NdAt w B v d) (hB:Below B w w'):NdAt w' B v d:=let ⟨a,b,c,e,f⟩:=h; ⟨a,b,c,e.keep hB,f⟩
namespace NodesAt
variable {w w':World} {B:Nat} {l:List Nd} {v:Value}
theorem mono (h:NodesAt w B l v) {C:Nat} (hC:B ≤ C):NodesAt w C l v:=by
 obtain ⟨a,cap,rfl,h1,h2,h3⟩:=h
 refine ⟨a,cap,rfl,h1,h2,h3.imp id ?_⟩
 rintro ⟨b,off,rfl,hb,hc⟩
 refine ⟨b,off,rfl,by omega,fun j hj => ?_⟩
 obtain ⟨u,iv,sv,c0,c1,c2,c3,c4,c5,c6,hs⟩:=hc j hj
 exact ⟨u,iv,sv,c0,c1,c2,c3,c4,c5,c6,hs.mono hC⟩
theorem keep (h:NodesAt w B l v) (hB:Below B w w'):NodesAt w' B l v:=by
 obtain ⟨a,cap,rfl,h1,h2,h3⟩:=h
 refine ⟨a,cap,rfl,h1,h2,h3.imp id ?_⟩
 rintro ⟨b,off,rfl,hb,hc⟩
 refine ⟨b,off,rfl,hb,fun j hj => ?_⟩
 obtain ⟨u,iv,sv,c0,c1,c2,c3,c4,c5,c6,hs⟩:=hc j hj
 have g:=fun k => hB.cell (p:=⟨b,k,none⟩) hb
 exact ⟨u,iv,sv,(g _).trans c0,(g _).trans c1,(g _).trans c2,(g _).trans c3,(g _).trans c4,(g _).trans c5,(g _).trans c6,hs.keep hB⟩
theorem slice (h:NodesAt w B l v):∃ a cap,v = .slice a l.length cap ∧ l.length ≤ cap ∧ cap ≤ maxLen:=by
 obtain ⟨a,cap,rfl,h1,h2,h3⟩:=h
 exact ⟨a,cap,rfl,h1,h2⟩
theorem at_ (h:NodesAt w B l v) (j:Nat) (hj:j < l.length):∃ b off cap,v = .slice (some ⟨b,off,none⟩) l.length cap ∧ b < B ∧ (l[j]'hj).uid.size ≤ maxLen ∧ ∃ iv sv,
  w.cell? ⟨b,off + j * 7,none⟩ = some (.string (l[j]'hj).uid) ∧ w.cell? ⟨b,off + j * 7 + 1,none⟩ = some (.int .u8 (l[j]'hj).kind) ∧ w.cell? ⟨b,off + j * 7 + 2,none⟩ = some iv ∧
  w.cell? ⟨b,off + j * 7 + 3,none⟩ = some (.int .u8 (l[j]'hj).x.op) ∧ w.cell? ⟨b,off + j * 7 + 4,none⟩ = some (.int .i64 (l[j]'hj).x.n) ∧ w.cell? ⟨b,off + j * 7 + 5,none⟩ = some sv ∧
  w.cell? ⟨b,off + j * 7 + 6,none⟩ = some (.int .i64 (l[j]'hj).n) ∧ NdIn w B iv sv (l[j]'hj):=by
 obtain ⟨a,cap,rfl,h1,h2,h3⟩:=h
 rcases h3 with h3 | ⟨b,off,rfl,hb,hc⟩
 ·omega
 ·obtain ⟨u,iv,sv,c⟩:=hc j hj
  exact ⟨b,off,cap,rfl,hb,u,iv,sv,c⟩
end NodesAt
theorem JbAt.mono {w:World} {B C:Nat} {v:Value} {j:Jb} (h:JbAt w B v j) (hC:B ≤ C):JbAt w C v j:=let ⟨a,b,c⟩:=h; ⟨a,b,c.mono hC⟩
theorem JbAt.keep {w w':World} {B:Nat} {v:Value} {j:Jb} (h:JbAt w B v j) (hB:Below B w w'):JbAt w' B v j:=let ⟨a,b,c⟩:=h; ⟨a,b,c.keep hB⟩
def Nd.ok (d:Nd):Prop:=0 ≤ d.kind ∧ d.kind ≤ 255 ∧ (∀ z ∈ d.ins, -9223372036854775808 ≤ z ∧ z ≤ 9223372036854775807) ∧ d.x.ok ∧ -9223372036854775808 ≤ d.n ∧ d.n ≤ 9223372036854775807
def Jb.ok (j:Jb):Prop := -9223372036854775808 ≤ j.par ∧ j.par ≤ 9223372036854775807 ∧ ∀ d ∈ j.nodes,d.ok
def idxZ {α:Type} (p:α → Bool):List α → Nat → Int
 | [],_ => -1
 | y :: l,k => bif p y then (k:Int) else idxZ p l (k + 1)
theorem idxZ_nonneg {α:Type} (p:α → Bool):∀ (l:List α) (k:Nat),(0 ≤ idxZ p l k) ↔ l.any p = true
 | [],k => by simp [idxZ]
 | y :: l,k => by
  simp only [idxZ,List.any_cons]
  cases h:p y
  ·simpa using idxZ_nonneg p l (k + 1)
  ·simp
theorem idxZ_le {α:Type} (p:α → Bool):∀ (l:List α) (k:Nat), -1 ≤ idxZ p l k ∧ idxZ p l k < k + l.length + 1
 | [],k => by simp [idxZ]; omega
 | y :: l,k => by
  have:=idxZ_le p l (k + 1)
  simp only [idxZ,List.length_cons]
  cases p y <;> simp only [cond_true,cond_false] <;> omega
theorem Sl.str {w:World} {B n:Nat} {v:Value} {zs:List ByteArray} (h:Sl w B 1 v n (zs.map Value.string)) (k:Nat) (hk:k < n) :
  ∃ b off cap,v = .slice (some ⟨b,off,none⟩) n cap ∧ b < B ∧ ∃ hl:k < zs.length,w.cell? ⟨b,off + k,none⟩ = some (.string (zs[k]'hl)):=by
 obtain ⟨h1,a,cap,hv,h2,h3,h4⟩:=h
 rw [List.length_map,Nat.mul_one] at h1
 rcases h4 with h4 | ⟨b,off,rfl,hb,hc⟩
 ·omega
 ·refine ⟨b,off,cap,hv,hb,by omega, ?_⟩
  rw [hc k (by omega)]
  simp [show k < zs.length by omega]
theorem Sl.take {w:World} {B n:Nat} {b off cap:Nat} {cs:List Value} (h:Sl w B 1 (.slice (some ⟨b,off,none⟩) n cap) n cs) (k:Nat) (hk:k ≤ n):Sl w B 1 (.slice (some ⟨b,off,none⟩) k cap) k (cs.take k):=by
 obtain ⟨h1,a,cap',hv,h2,h3,h4⟩:=h
 simp only [Value.slice.injEq,true_and] at hv
 obtain ⟨rfl,rfl⟩:=hv
 refine ⟨by simp; omega,_,cap,rfl,by omega,h3, ?_⟩
 rcases h4 with h4 | ⟨b',off',he,hb,hc⟩
 ·exact .inl (by omega)
 ·simp only [Option.some.injEq,Addr.mk.injEq,and_true] at he
  obtain ⟨rfl,rfl⟩:=he
  exact .inr ⟨b,off,rfl,hb,fun j hj => by rw [hc j (by omega),List.getElem?_take,if_pos (by omega)]⟩
set_option maxHeartbeats 400000 in
theorem IndexInt_c (l:List Int) (n:Nat) (v:Value) (x:Int) (B:Nat) (w:World) (h:Sl w B 1 v n (l.map (Value.int .i64))) (hn:l.length = n) :
  Calls Tryz.prog 218 #[v, .int .i64 x] w fun e w' => e = .returned (.int .i64 (idxZ (fun y => x == y) l 0)) ∧ w = w':=by
 obtain ⟨_,a,cap,rfl,hc,hm,_⟩:=id h
 have H:=Lib.hid h
 have HN:=Lib.hid hn
 have hnm:n ≤ 9223372036854775807:=by unfold maxLen at hm; omega
 clear h hn
 rename_i hx1 hx2
 clear hx1 hx2
 go_enter Tryz.func218,Tryz.ntmps218
 go_wp2
 go_loop [8] (fun q => ∃ k:Nat,q = .int .i64 k ∧ k ≤ n ∧ idxZ (fun y => x == y) (l.drop k) k = idxZ (fun y => x == y) l 0) (fun q => n - (intOf q).toNat)
 case atStart => exact ⟨0,rfl,Nat.zero_le _,rfl⟩
 case round =>
  obtain ⟨k,rfl,hk,hr⟩:=hrel
  by_cases hlt:k < n
  ·obtain ⟨b,off,cp,e1,hb,g1,p0⟩:=H.out.int k hlt
   simp only [Value.slice.injEq,true_and] at e1
   obtain ⟨rfl,rfl⟩:=e1
   rw [List.drop_eq_getElem_cons g1] at hr
   generalize l[k] = y at *
   simp only [idxZ] at hr
   have HR:=Lib.hid hr
   clear hr
   cases hxy:(x == y)
   all_goals
    have HXY:=Lib.hid hxy
    go_wp2
   ·go_round
    case rel => exact ⟨k + 1,by go_num,by omega,by rw [← HR.out,HXY.out]; rfl⟩
    case measure => simp [intOf]; omega
   ·go_ret
    exact ⟨ret_int (by rw [← HR.out,HXY.out]; rfl),rfl⟩
  ·rw [List.drop_of_length_le (by have:=HN.out; omega)] at hr
   have HR:=Lib.hid hr
   clear hr
   go_wp2
   go_ret
   exact ⟨ret_int (by rw [← HR.out]; rfl),rfl⟩
set_option maxHeartbeats 400000 in
theorem ContainsInt_c (l:List Int) (n:Nat) (v:Value) (x:Int) (B:Nat) (w:World) (h:Sl w B 1 v n (l.map (Value.int .i64))) (hn:l.length = n) :
  Calls Tryz.prog 185 #[v, .int .i64 x] w fun e w' => e = .returned (.bool (l.any (fun y => x == y))) ∧ w = w':=by
 have hz:=idxZ_nonneg (fun y => x == y) l 0
 cases ha:l.any (fun y => x == y)
 all_goals
  rw [ha] at hz
  have HZ:=Lib.hid hz
  clear hz ha
  go_enter Tryz.func185,Tryz.ntmps185
  go_wp2_with (go_at_call 218; refine (IndexInt_c l n v x B w h hn).mono ?_; rintro e w1 ⟨rfl,rfl⟩; generalize idxZ (fun y => x == y) l 0 = z at *)
  go_ret
  exact ⟨ret_bool (by have hz:=HZ.out; simp only [Bool.false_eq_true,iff_false,iff_true] at hz; simpa using hz),rfl⟩
set_option maxHeartbeats 400000 in
theorem IndexStr_c (l:List ByteArray) (n:Nat) (v:Value) (x:ByteArray) (B:Nat) (w:World) (h:Sl w B 1 v n (l.map Value.string)) (hn:l.length = n) :
  Calls Tryz.prog 217 #[v, .string x] w fun e w' => e = .returned (.int .i64 (idxZ (fun y => decide (x = y)) l 0)) ∧ w = w':=by
 obtain ⟨_,a,cap,rfl,hc,hm,_⟩:=id h
 have H:=Lib.hid h
 have HN:=Lib.hid hn
 have hnm:n ≤ 9223372036854775807:=by unfold maxLen at hm; omega
 clear h hn
 rename_i hx1 hx2
 clear hx1 hx2
 go_enter Tryz.func217,Tryz.ntmps217
 go_wp2
 go_loop [8] (fun q => ∃ k:Nat,q = .int .i64 k ∧ k ≤ n ∧ idxZ (fun y => decide (x = y)) (l.drop k) k = idxZ (fun y => decide (x = y)) l 0) (fun q => n - (intOf q).toNat)
 case atStart => exact ⟨0,rfl,Nat.zero_le _,rfl⟩
 case round =>
  obtain ⟨k,rfl,hk,hr⟩:=hrel
  by_cases hlt:k < n
  ·obtain ⟨b,off,cp,e1,hb,g1,p0⟩:=H.out.str k hlt
   simp only [Value.slice.injEq,true_and] at e1
   obtain ⟨rfl,rfl⟩:=e1
   rw [List.drop_eq_getElem_cons g1] at hr
   generalize l[k] = y at *
   simp only [idxZ] at hr
   have HR:=Lib.hid hr
   clear hr
   have hb:=bytes_inj x y
   by_cases hxy:x = y
   ·have HXY:Hid (decide (x = y) = true):=decide_eq_true hxy
    have hq:(x.toList == y.toList) = true:=by simpa using hb.2 hxy
    clear hb hxy
    go_wp2
    go_ret
    exact ⟨ret_int (by rw [← HR.out,HXY.out]; rfl),rfl⟩
   ·have HXY:Hid (decide (x = y) = false):=decide_eq_false hxy
    have hq:(x.toList == y.toList) = false:=by simpa using fun h => hxy (hb.1 h)
    clear hb hxy
    go_wp2
    go_round
    case rel => exact ⟨k + 1,by go_num,by omega,by rw [← HR.out,HXY.out]; rfl⟩
    case measure => simp [intOf]; omega
  ·rw [List.drop_of_length_le (by have:=HN.out; omega)] at hr
   have HR:=Lib.hid hr
   clear hr
   go_wp2
   go_ret
   exact ⟨ret_int (by rw [← HR.out]; rfl),rfl⟩
set_option maxHeartbeats 400000 in
theorem ContainsStr_c (l:List ByteArray) (n:Nat) (v:Value) (x:ByteArray) (B:Nat) (w:World) (h:Sl w B 1 v n (l.map Value.string)) (hn:l.length = n) :
  Calls Tryz.prog 184 #[v, .string x] w fun e w' => e = .returned (.bool (l.any (fun y => decide (x = y)))) ∧ w = w':=by
 have hz:=idxZ_nonneg (fun y => decide (x = y)) l 0
 cases ha:l.any (fun y => decide (x = y))
 all_goals
  rw [ha] at hz
  have HZ:=Lib.hid hz
  clear hz ha
  go_enter Tryz.func184,Tryz.ntmps184
  go_wp2_with (go_at_call 217; refine (IndexStr_c l n v x B w h hn).mono ?_; rintro e w1 ⟨rfl,rfl⟩; generalize idxZ (fun y => decide (x = y)) l 0 = z at *)
  go_ret
  exact ⟨ret_bool (by have hz:=HZ.out; simp only [Bool.false_eq_true,iff_false,iff_true] at hz; simpa using hz),rfl⟩
def twiceGo {α:Type} (p:α → α → Bool):List α → List α → Bool
 | _,[] => false
 | s,x :: l => s.any (p x) || twiceGo p (s ++ [x]) l
def twiceB {α:Type} (p:α → α → Bool) (l:List α):Bool:=twiceGo p [] l
set_option maxHeartbeats 1000000 in
theorem twiceInt_c (l:List Int) (n:Nat) (v:Value) (B:Nat) (w:World) (h:Sl w B 1 v n (l.map (Value.int .i64))) (hn:l.length = n) :
  Calls Tryz.prog 180 #[v] w fun e w' => e = .returned (.bool (twiceB (fun x y => x == y) l)) ∧ w = w':=by
 obtain ⟨_,a,cap,rfl,hc,hm,_⟩:=id h
 have H:=Lib.hid h
 have HN:=Lib.hid hn
 have hnm:n ≤ 9223372036854775807:=by unfold maxLen at hm; omega
 have hcm:cap ≤ 9223372036854775807:=by unfold maxLen at hm; omega
 clear h hn
 rename_i hx1 hx2
 clear hx1 hx2
 go_enter Tryz.func180,Tryz.ntmps180
 go_wp2
 go_loop [7] (fun q => ∃ k:Nat,q = .int .i64 k ∧ k ≤ n ∧ twiceGo (fun x y => x == y) (l.take k) (l.drop k) = twiceB (fun x y => x == y) l) (fun q => n - (intOf q).toNat)
 case atStart => exact ⟨0,rfl,Nat.zero_le _,rfl⟩
 case round =>
  obtain ⟨k,rfl,hk,hr⟩:=hrel
  by_cases hlt:k < n
  ·obtain ⟨b,off,cp,e1,hb,g1,p0⟩:=H.out.int k hlt
   simp only [Value.slice.injEq,true_and] at e1
   obtain ⟨rfl,rfl⟩:=e1
   have HT:=Lib.hid (H.out.take k hk)
   rw [List.drop_eq_getElem_cons g1] at hr
   have hts:=List.take_succ_eq_append_getElem g1
   have HL:Hid ((l.take k).length = k):=by simp [Hid]; omega
   generalize l[k] = y at *
   rw [← List.map_take] at HT
   simp only [twiceGo] at hr
   have HR:=Lib.hid hr
   have HTS:=Lib.hid hts
   clear hr hts
   cases hxy:(l.take k).any (fun z => y == z)
   all_goals
    have HXY:=Lib.hid hxy
    clear hxy
    go_wp2_with (go_at_call 185; refine (ContainsInt_c (l.take k) k _ y B _ HT.out HL.out).mono ?_; rintro e w1 ⟨rfl,rfl⟩; rw [HXY.out])
   ·go_round
    case rel => exact ⟨k + 1,by go_num,by omega,by rw [HTS.out, ← HR.out,HXY.out]; rfl⟩
    case measure => simp [intOf]; omega
   ·go_ret
    exact ⟨ret_bool (by rw [← HR.out,HXY.out]; rfl),rfl⟩
  ·rw [List.drop_of_length_le (by have:=HN.out; omega)] at hr
   have HR:=Lib.hid hr
   clear hr
   go_wp2
   go_ret
   exact ⟨ret_bool (by rw [← HR.out]; rfl),rfl⟩
set_option maxHeartbeats 1000000 in
theorem twiceStr_c (l:List ByteArray) (n:Nat) (v:Value) (B:Nat) (w:World) (h:Sl w B 1 v n (l.map Value.string)) (hn:l.length = n) :
  Calls Tryz.prog 120 #[v] w fun e w' => e = .returned (.bool (twiceB (fun x y => decide (x = y)) l)) ∧ w = w':=by
 obtain ⟨_,a,cap,rfl,hc,hm,_⟩:=id h
 have H:=Lib.hid h
 have HN:=Lib.hid hn
 have hnm:n ≤ 9223372036854775807:=by unfold maxLen at hm; omega
 have hcm:cap ≤ 9223372036854775807:=by unfold maxLen at hm; omega
 clear h hn
 rename_i hx1 hx2
 clear hx1 hx2
 go_enter Tryz.func120,Tryz.ntmps120
 go_wp2
 go_loop [7] (fun q => ∃ k:Nat,q = .int .i64 k ∧ k ≤ n ∧ twiceGo (fun x y => decide (x = y)) (l.take k) (l.drop k) = twiceB (fun x y => decide (x = y)) l) (fun q => n - (intOf q).toNat)
 case atStart => exact ⟨0,rfl,Nat.zero_le _,rfl⟩
 case round =>
  obtain ⟨k,rfl,hk,hr⟩:=hrel
  by_cases hlt:k < n
  ·obtain ⟨b,off,cp,e1,hb,g1,p0⟩:=H.out.str k hlt
   simp only [Value.slice.injEq,true_and] at e1
   obtain ⟨rfl,rfl⟩:=e1
   have HT:=Lib.hid (H.out.take k hk)
   rw [List.drop_eq_getElem_cons g1] at hr
   have hts:=List.take_succ_eq_append_getElem g1
   have HL:Hid ((l.take k).length = k):=by simp [Hid]; omega
   generalize l[k] = y at *
   rw [← List.map_take] at HT
   simp only [twiceGo] at hr
   have HR:=Lib.hid hr
   have HTS:=Lib.hid hts
   clear hr hts
   cases hxy:(l.take k).any (fun z => decide (y = z))
   all_goals
    have HXY:=Lib.hid hxy
    clear hxy
    go_wp2_with (go_at_call 184; refine (ContainsStr_c (l.take k) k _ y B _ HT.out HL.out).mono ?_; rintro e w1 ⟨rfl,rfl⟩; rw [HXY.out])
   ·go_round
    case rel => exact ⟨k + 1,by go_num,by omega,by rw [HTS.out, ← HR.out,HXY.out]; rfl⟩
    case measure => simp [intOf]; omega
   ·go_ret
    exact ⟨ret_bool (by rw [← HR.out,HXY.out]; rfl),rfl⟩
  ·rw [List.drop_of_length_le (by have:=HN.out; omega)] at hr
   have HR:=Lib.hid hr
   clear hr
   go_wp2
   go_ret
   exact ⟨ret_bool (by rw [← HR.out]; rfl),rfl⟩
def outB (at_ y:Int):Bool:=decide (y < 0) || decide (at_ ≤ y)
set_option maxHeartbeats 400000 in
theorem may1_c (y at_:Int) (b:Nat) (w:World) (h:w.cell? ⟨b,0,none⟩ = some (.int .i64 at_)) :
  Calls Tryz.prog 182 #[.int .i64 y, .pointer (some ⟨b,0,none⟩)] w fun e w' => e = .returned (.bool (outB at_ y)) ∧ w = w':=by
 cases h1:decide (y < 0)
 all_goals
  have HO:Hid (outB at_ y = (decide (y < 0) || decide (at_ ≤ y))):=rfl
  go_enter Tryz.func182,Tryz.ntmps182
  go_wp2
  go_ret
  exact ⟨ret_bool (by rw [HO.out,h1]; simp),rfl⟩
set_option maxHeartbeats 400000 in
theorem IndexOut_c (l:List Int) (n:Nat) (v:Value) (at_:Int) (b:Nat) (B:Nat) (w:World) (h:Sl w B 1 v n (l.map (Value.int .i64))) (hn:l.length = n) (hb:w.cell? ⟨b,0,none⟩ = some (.int .i64 at_)) :
  Calls Tryz.prog 215 #[v, .func (.func 182) #[] #[.pointer (some ⟨b,0,none⟩)]] w fun e w' => e = .returned (.int .i64 (idxZ (outB at_) l 0)) ∧ w = w':=by
 obtain ⟨_,a,cap,rfl,hc,hm,_⟩:=id h
 have H:=Lib.hid h
 have HN:=Lib.hid hn
 have HB:=Lib.hid hb
 have hnm:n ≤ 9223372036854775807:=by unfold maxLen at hm; omega
 clear h hn hb
 rename_i hx1 hx2
 clear hx1 hx2
 go_enter Tryz.func215,Tryz.ntmps215
 go_wp2
 go_loop [8] (fun q => ∃ k:Nat,q = .int .i64 k ∧ k ≤ n ∧ idxZ (outB at_) (l.drop k) k = idxZ (outB at_) l 0) (fun q => n - (intOf q).toNat)
 case atStart => exact ⟨0,rfl,Nat.zero_le _,rfl⟩
 case round =>
  obtain ⟨k,rfl,hk,hr⟩:=hrel
  by_cases hlt:k < n
  ·obtain ⟨b',off,cp,e1,hb',g1,p0⟩:=H.out.int k hlt
   simp only [Value.slice.injEq,true_and] at e1
   obtain ⟨rfl,rfl⟩:=e1
   rw [List.drop_eq_getElem_cons g1] at hr
   generalize l[k] = y at *
   simp only [idxZ] at hr
   have HR:=Lib.hid hr
   clear hr
   cases hxy:outB at_ y
   all_goals
    have HXY:=Lib.hid hxy
    clear hxy
    go_wp2_with (go_at_call 182; refine (may1_c y at_ b _ HB.out).mono ?_; rintro e w1 ⟨rfl,rfl⟩; rw [HXY.out])
   ·go_round
    case rel => exact ⟨k + 1,by go_num,by omega,by rw [← HR.out,HXY.out]; rfl⟩
    case measure => simp [intOf]; omega
   ·go_ret
    exact ⟨ret_int (by rw [← HR.out,HXY.out]; rfl),rfl⟩
  ·rw [List.drop_of_length_le (by have:=HN.out; omega)] at hr
   have HR:=Lib.hid hr
   clear hr
   go_wp2
   go_ret
   exact ⟨ret_int (by rw [← HR.out]; rfl),rfl⟩
set_option maxHeartbeats 400000 in
theorem ContainsOut_c (l:List Int) (n:Nat) (v:Value) (at_:Int) (b:Nat) (B:Nat) (w:World) (h:Sl w B 1 v n (l.map (Value.int .i64))) (hn:l.length = n) (hb:w.cell? ⟨b,0,none⟩ = some (.int .i64 at_)) :
  Calls Tryz.prog 181 #[v, .func (.func 182) #[] #[.pointer (some ⟨b,0,none⟩)]] w fun e w' => e = .returned (.bool (l.any (outB at_))) ∧ w = w':=by
 have hz:=idxZ_nonneg (outB at_) l 0
 cases ha:l.any (outB at_)
 all_goals
  rw [ha] at hz
  have HZ:=Lib.hid hz
  have HB:=Lib.hid hb
  clear hz ha hb
  go_enter Tryz.func181,Tryz.ntmps181
  go_wp2_with (go_at_call 215; refine (IndexOut_c l n v at_ b B w h hn HB.out).mono ?_; rintro e w1 ⟨rfl,rfl⟩; generalize idxZ (outB at_) l 0 = z at *)
  go_ret
  exact ⟨ret_bool (by have hz:=HZ.out; simp only [Bool.false_eq_true,iff_false,iff_true] at hz; simpa using hz),rfl⟩
mutual
def Ex.accB:Ex → Bool
 | .mk o _ l => o == 4 || Exs.accB l
def Exs.accB:List Ex → Bool
 | [] => false
 | x :: l => x.accB || Exs.accB l
end
theorem Ex.accB_eq (x:Ex):x.accB = (x.op == 4 || Exs.accB x.args):=by obtain ⟨o,n,l⟩:=x; rfl
def AccC (h:Nat):Prop:=∀ (x:Ex) (v:Value) (B:Nat) (w:World),x.ht ≤ h → ExAt w B v x → B ≤ w.heap.size →
 Calls Tryz.prog 241 #[v] w fun e w' => e = .returned (.bool x.accB) ∧ Below w.heap.size w w'
set_option maxHeartbeats 1000000 in
theorem acc_step (h:Nat) (IH:Hid (∀ x:Ex,x.ht < h → ∀ (v:Value) (B:Nat) (w:World),ExAt w B v x → B ≤ w.heap.size →
   Calls Tryz.prog 241 #[v] w fun e w' => e = .returned (.bool x.accB) ∧ Below w.heap.size w w')):AccC h:=by
 intro x v B w hh hv hB
 have HLT:Hid (∀ a ∈ x.args,a.ht < h):=fun a ha => by have:=Ex.ht_args x a ha; omega
 have HE:=Lib.hid (Ex.accB_eq x)
 obtain ⟨sv,rfl,hs⟩:=hv
 obtain ⟨a,cap,rfl,hcap,hmx⟩:=hs.slice
 have HS:=Lib.hid hs
 have hlm:x.args.length ≤ 9223372036854775807:=by unfold maxLen at hmx; omega
 generalize x.op = o at *
 generalize x.n = n at *
 generalize x.args = l at *
 clear hs hh
 by_cases h4:o = 4
 ·have hq1:(o == 4) = true:=by simpa using h4
  have HE2:Hid (x.accB = true):=by show _ = _; rw [HE.out,hq1]; rfl
  clear h4 HE
  go_enter Tryz.func241,Tryz.ntmps241
  go_wp2
  go_ret
  exact ⟨ret_bool HE2.out.symm,(Below.refl _ _).alloc (Nat.le_refl _) _⟩
 ·have hq1:(o == 4) = false:=by simpa using h4
  have HE2:Hid (x.accB = Exs.accB l):=by show _ = _; rw [HE.out,hq1]; rfl
  clear h4 HE
  go_enter Tryz.func241,Tryz.ntmps241
  go_wp2
  have hW:=(Below.refl w.heap.size w).alloc (Nat.le_refl _) (.cells #[.int .u8 o, .int .i64 n, .slice a l.length cap] 179)
  generalize World.alloc w _ = W at *
  go_loopw [11] (fun q wr => ∃ j:Nat,q = .int .i64 j ∧ j ≤ l.length ∧ Below w.heap.size w wr ∧ Exs.accB (l.drop j) = Exs.accB l) (fun q _ => l.length - (intOf q).toNat)
  case atStart => exact ⟨0,rfl,Nat.zero_le _,hW,rfl⟩
  case round =>
   obtain ⟨j,rfl,hj,hBr,hr⟩:=hrel
   by_cases hlt:j < l.length
   ·obtain ⟨b,off,cp,sv,e1,hb,c0,c1,c2,hsub⟩:=((HS.out.mono hB).keep hBr).at_ j hlt
    simp only [Value.slice.injEq,true_and] at e1
    obtain ⟨rfl,rfl⟩:=e1
    obtain ⟨a2,cap2,rfl,_,_⟩:=hsub.slice
    rw [List.drop_eq_getElem_cons hlt] at hr
    simp only [Exs.accB] at hr
    have hht:=HLT.out _ (List.getElem_mem hlt)
    have hx:∀ X,Below wr.heap.size wr X → ExAt X X.heap.size (.agg #[.int .u8 (l[j]'hlt).op, .int .i64 (l[j]'hlt).n, .slice a2 (l[j]'hlt).args.length cap2]) (l[j]'hlt):=fun X hX => ⟨_,rfl,(hsub.keep (hX.mono hBr.size)).mono (Nat.le_trans hBr.size hX.size)⟩
    generalize l[j] = y at *
    have HX:=Lib.hid hx
    have HR:=Lib.hid hr
    clear hr hx hsub
    cases hy:y.accB
    all_goals
     have HY:=Lib.hid hy
     clear hy
     go_wp2_with (go_at_call 241; refine (IH.out y hht _ _ _ (HX.out _ ((Below.refl _ _).alloc (Nat.le_refl _) _)) (Nat.le_refl _)).mono ?_; rintro e w3 ⟨rfl,hb3⟩; rw [HY.out])
    ·go_roundw
     case rel => exact ⟨j + 1,by go_num,by omega,(hBr.alloc hBr.size _).trans (hb3.mono (by have:=hBr.size; simp; omega)),by rw [← HR.out,HY.out,Bool.false_or]⟩
     case measure => simp [intOf]; omega
    ·go_ret
     exact ⟨ret_bool (by rw [HE2.out, ← HR.out,HY.out]; rfl),(hBr.alloc hBr.size _).trans (hb3.mono (by have:=hBr.size; simp; omega))⟩
   ·rw [List.drop_of_length_le (by omega)] at hr
    have HR:=Lib.hid hr
    clear hr
    go_wp2
    go_ret
    exact ⟨ret_bool (by rw [HE2.out, ← HR.out]; rfl),hBr⟩
theorem acc_all (h:Nat):AccC h:=by
 induction h using Nat.strongRecOn with
 | ind h ih => exact acc_step h (fun x hx v B w hv hB => ih x.ht hx x v B w (Nat.le_refl _) hv hB)
theorem accs_c (x:Ex) (v:Value) (B:Nat) (w:World) (hv:ExAt w B v x) (hB:B ≤ w.heap.size) :
  Calls Tryz.prog 241 #[v] w fun e w' => e = .returned (.bool x.accB) ∧ Below w.heap.size w w':=acc_all x.ht x v B w (Nat.le_refl _) hv hB
structure Row where
 op:Int
 a:Int
 b:Int
 c:Int
deriving DecidableEq
def Row.v (r:Row):Value := .agg #[.int .u8 r.op, .int .u8 r.a, .int .u8 r.b, .int .u8 r.c]
theorem eq_arr (d:Nat) (a b c a' b' c':Int) (w:World):(Op.equalIn (d + 2) 356 (.agg #[.int .u8 a, .int .u8 b, .int .u8 c]) (.agg #[.int .u8 a', .int .u8 b', .int .u8 c'])).run Tryz.prog w = .ok (a == a' && (b == b' && c == c')) w:=by
 unfold Op.equalIn
 go_simp
 rw [show List.range' 0 3 = [0,1,2] from rfl]
 simp only [List.forIn_cons,List.forIn_nil]
 go_simp
 by_cases h1:a = a'
 ·by_cases h2:b = b'
  ·by_cases h3:c = c' <;> simp [h1,h2,h3]
  ·simp [h1,h2]
 ·simp [h1]
theorem run_eq_row (r s:Row) (w:World):(Op.equal 358 r.v s.v).run Tryz.prog w = .ok (decide (r = s)) w:=by
 obtain ⟨o,a,b,c⟩:=r
 obtain ⟨o',a',b',c'⟩:=s
 simp only [Row.v]
 unfold Op.equal Op.maxDepth Op.equalIn
 go_simp
 rw [show (Op.equalIn 9999 356 (.agg #[.int .u8 a, .int .u8 b, .int .u8 c]) (.agg #[.int .u8 a', .int .u8 b', .int .u8 c'])).run Tryz.prog w = _ from eq_arr 9997 a b c a' b' c' w]
 by_cases h1:o = o'
 ·by_cases h2:a = a'
  ·by_cases h3:b = b'
   ·by_cases h4:c = c'
    ·simp [h1,h2,h3,h4,Result.andThen]
    ·simp [h1,h2,h3,h4,Result.andThen]
   ·simp [h1,h2,h3,Result.andThen]
  ·simp [h1,h2,Result.andThen]
 ·simp [h1]
theorem ck_u8 (d:Nat) (e:Bool) (x:Int) (w:World):(Instr.checkKey e (d + 1) 5 (.int .u8 x)).run Tryz.prog w = .ok () w:=by
 unfold Instr.checkKey
 go_simp
theorem ck_arr (d:Nat) (e:Bool) (a b c:Int) (w:World):(Instr.checkKey e (d + 2) 356 (.agg #[.int .u8 a, .int .u8 b, .int .u8 c])).run Tryz.prog w = .ok () w:=by
 unfold Instr.checkKey
 go_simp
 rw [show List.range' 0 3 = [0,1,2] from rfl]
 simp only [List.forIn_cons,List.forIn_nil]
 go_simp
 simp only [ck_u8]
 go_simp
theorem run_checkKey_row (e:Bool) (r:Row) (w:World):(Instr.checkKey e 10000 358 r.v).run Tryz.prog w = .ok () w:=by
 obtain ⟨o,a,b,c⟩:=r
 simp only [Row.v]
 unfold Instr.checkKey
 go_simp
 rw [show (Instr.checkKey e 9999 5 (.int .u8 o)).run Tryz.prog w = _ from ck_u8 9998 e o w]
 simp only [Result.andThen]
 exact ck_arr 9997 e a b c w
def findRow (r:Row):List (Row × Int) → Nat → Option (Nat × Int)
 | [],_ => none
 | p :: l,i => if r = p.1 then some (i,p.2) else findRow r l (i + 1)
def getRow (r:Row) (l:List (Row × Int)):Int:=((findRow r l 0).map (·.2)).getD 0
def EntsAre (es:List MapEntry) (kv:List (Row × Int)):Prop:=es.map (fun e => (e.key,e.val)) = kv.map (fun p => (p.1.v,Value.int .u8 p.2))
theorem findAsking_row (r:Row) (w:World):∀ (kv:List (Row × Int)) (es:List MapEntry) (i:Nat),EntsAre es kv →
  (Instr.findAsking 358 r.v es i).run Tryz.prog w = .ok ((findRow r kv i).map (fun p => (p.1,Value.int .u8 p.2))) w
 | [],[],i,_ => by unfold Instr.findAsking; go_simp; rfl
 | [],_ :: _,i,h => by simp [EntsAre] at h
 | _ :: _,[],i,h => by simp [EntsAre] at h
 | p :: kv,e :: es,i,h => by
  simp only [EntsAre,List.map_cons,List.cons.injEq,Prod.mk.injEq] at h
  obtain ⟨⟨h1,h2⟩,h3⟩:=h
  have ih:=findAsking_row r w kv es (i + 1) h3
  unfold Instr.findAsking findRow
  rw [h1,h2]
  go_simp
  rw [run_eq_row]
  by_cases hr:r = p.1
  ·simp [hr,Result.andThen]
  ·simp [hr,Result.andThen,ih]
theorem info_intJ:(Tryz.prog.info? 3).map (fun i => (i.zero,i.size,i.bytes)) = some (some (.int .i64 0),1,8):=by kernel_rfl
theorem cell_one_newJ (w:World) (a:Value) (t:TypeId):∀ j u,[a][j]? = some u → (w.alloc (.cells #[a] t)).cell? ((⟨w.heap.size,0,none⟩:Addr).add j) = some u:=by
 intro j u hj
 have hj4:j < 1:=(List.getElem?_eq_some_iff.1 hj).1
 rw [Addr.add_lit,Nat.zero_add,(Blk.new w #[a] t).cell j]
 simpa using hj
def readersGo (at_:Int):List Nd → Nat → List Int
 | [],_ => []
 | d :: l,k => bif d.ins.any (fun y => at_ == y) then (k:Int) :: readersGo at_ l (k + 1) else readersGo at_ l (k + 1)
def Jb.readers (j:Jb) (at_:Int):List Int:=readersGo at_ j.nodes 0
structure RdRel (at_:Int) (l:List Nd) (w:World) (s q:Value) (wr:World):Prop where
 ex:∃ (k:Nat) (xs:List Int),q = .int .i64 k ∧ k ≤ l.length ∧ Below w.heap.size w wr ∧ wr.ownsRow w.heap.size 3 1 s xs.length (xs.map (Value.int .i64)) ∧ xs.length ≤ k ∧ xs ++ readersGo at_ (l.drop k) k = readersGo at_ l 0
set_option maxHeartbeats 1000000 in
theorem readers_c (jb:Jb) (at_:Int) (v:Value) (B:Nat) (w:World) (hv:JbAt w B v jb) (hB:B ≤ w.heap.size) (hlen:jb.nodes.length ≤ 1000) :
  Calls Tryz.prog 121 #[v, .int .i64 at_] w fun e w' => ∃ v',e = .returned v' ∧ Sl w' w'.heap.size 1 v' (jb.readers at_).length ((jb.readers at_).map (Value.int .i64)) ∧ Below w.heap.size w w':=by
 obtain ⟨i0,hi,hz0,hz1,hz2⟩:=info_parts info_intJ
 have HE:Hid (jb.readers at_ = readersGo at_ jb.nodes 0):=rfl
 obtain ⟨sv,rfl,hs⟩:=hv
 obtain ⟨a,cap,rfl,hcap,hmx⟩:=hs.slice
 have HS:=Lib.hid hs
 generalize jb.nodes = l at *
 generalize jb.par = par at *
 generalize jb.readers at_ = rr at *
 clear hs
 have hW:=(Below.refl w.heap.size w).alloc (Nat.le_refl _) (.cells #[.int .i64 par, .slice a l.length cap] 26)
 go_enter Tryz.func121,Tryz.ntmps121
 go_wp2_with fail
 generalize World.alloc w _ = W at *
 go_loopw [5,11] (fun s q wr => RdRel at_ l w s q wr) (fun _ q _ => l.length - (intOf q).toNat)
 case atStart => exact ⟨⟨0,[],rfl,Nat.zero_le _,hW,World.ownsRow_nil _ _ _ _,Nat.le_refl _,rfl⟩⟩
 case round =>
  obtain ⟨k,xs,rfl,hk,hBr,hown,hxk,hr⟩:=hrel.ex
  clear hrel
  by_cases hlt:k < l.length
  ·obtain ⟨b,off,cp,e1,hb,hu,iv,sv,c0,c1,c2,c3,c4,c5,c6,hin⟩:=((HS.out.mono hB).keep hBr).at_ k hlt
   simp only [Value.slice.injEq,true_and] at e1
   obtain ⟨rfl,rfl⟩:=e1
   obtain ⟨a2,cap2,rfl,_,_⟩:=hin.2.slice
   obtain ⟨_,ai,capi,rfl,_,_,_⟩:=id hin.1
   rw [List.drop_eq_getElem_cons hlt] at hr
   simp only [readersGo] at hr
   have hsl:=fun X (hX:Below w.heap.size wr X) => hin.1.below hX
   generalize l[k] = y at *
   have HSL:=Lib.hid hsl
   have HR:=Lib.hid hr
   rename_i hx1 hx2 hx3
   clear hr hin hsl hx1 hx2 hx3
   have hbw:w.heap.size ≤ wr.heap.size:=hBr.size
   cases hc:y.ins.any (fun z => at_ == z)
   all_goals
    have HC:=Lib.hid hc
    clear hc
   ·go_wp2_with (go_at_call 185; refine (ContainsInt_c y.ins _ _ at_ _ _ (HSL.out _ ((Below.refl _ _).alloc hbw _)) rfl).mono ?_; rintro e w3 ⟨rfl,rfl⟩; rw [HC.out])
    go_roundw
    case rel => exact ⟨⟨k + 1,xs,by go_num,by omega,hBr.alloc hbw _,hown.alloc _,by omega,by rw [← HR.out,HC.out]; rfl⟩⟩
    case measure => simp [intOf]; omega
   ·have hBn:=hBr.alloc hbw (.cells #[.string y.uid, .int .u8 y.kind, .slice ai y.ins.length capi, .int .u8 y.x.op, .int .i64 y.x.n, .slice a2 y.x.args.length cap2, .int .i64 y.n] 181)
    have hon:=hown.alloc (.cells #[.string y.uid, .int .u8 y.kind, .slice ai y.ins.length capi, .int .u8 y.x.op, .int .i64 y.x.n, .slice a2 y.x.args.length cap2, .int .i64 y.n] 181)
    go_upto_region 6 with (go_at_call 185; refine (ContainsInt_c y.ins _ _ at_ _ _ (HSL.out _ ((Below.refl _ _).alloc hbw _)) rfl).mono ?_; rintro e w3 ⟨rfl,rfl⟩; rw [HC.out])
    generalize World.alloc wr _ = W2 at *
    have hbw2:=hBn.size
    go_wp2_with (at_builtin; refine wpList_append_own _ rfl (.tmp 20) (.tmp 22) 176 rfl w.heap.size 3 i0 (.int .i64 0) 1 8 Tryz.underlying176 hi hz0 hz1 hz2 rfl (by decide) u5 xs.length (xs.map (Value.int .i64)) rfl (hon.alloc _) ⟨W2.heap.size,0,none⟩ 1 1 [.int .i64 (k:Int)] rfl rfl (cell_one_newJ _ _ _) (by simp [Value.oneCell']) (by unfold maxLen; omega) (by omega) (by simp; omega) ?_; intro v1' w3 hown3 hgrow3 _)
    have hb3:∀ k,u5.ownBlock = some k → w.heap.size ≤ k:=fun k hk => (hon.lt k hk).1
    have hB3:Below w.heap.size w w3:=(hBn.alloc hbw2 _).grown hgrow3 (by simp; omega) hb3
    go_roundw
    case rel =>
     refine ⟨⟨k + 1,xs ++ [(k:Int)],by go_num,by omega,hB3, ?_,by simp; omega,by rw [← HR.out,HC.out]; simp⟩⟩
     simpa using hown3
    case measure => simp [intOf]; omega
  ·rw [List.drop_of_length_le (by omega)] at hr
   simp only [readersGo,List.append_nil] at hr
   subst hr
   have HO:=Lib.hid (Sl.of_owns hown)
   go_wp2
   go_ret
   refine ⟨_,rfl, ?_,hBr⟩
   rw [HE.out]
   exact HO.out
set_option maxHeartbeats 1000000 in
theorem find1_c (d:Nd) (u:ByteArray) (b:Nat) (v:Value) (B:Nat) (w:World) (hv:NdAt w B v d) (hu:w.cell? ⟨b,0,none⟩ = some (.string u)) (hb:b < w.heap.size) :
  Calls Tryz.prog 197 #[v, .pointer (some ⟨b,0,none⟩)] w fun e w' => e = .returned (.bool (decide (d.uid = u))) ∧ Below w.heap.size w w':=by
 obtain ⟨iv,sv,rfl,⟨hi,hs⟩,hu2⟩:=hv
 obtain ⟨_,ai,capi,rfl,hc1,hm1,_⟩:=id hi
 obtain ⟨ax,capx,rfl,hc2,hm2⟩:=hs.slice
 have hbi:=bytes_inj d.uid u
 have HU:=Lib.hid hu
 by_cases hxy:d.uid = u
 ·have HXY:Hid (decide (d.uid = u) = true):=decide_eq_true hxy
  have hq:(d.uid.toList == u.toList) = true:=by simpa using hbi.2 hxy
  clear hbi hxy
  go_enter Tryz.func197,Tryz.ntmps197
  go_wp2
  go_ret
  exact ⟨ret_bool HXY.out.symm,(Below.refl _ _).alloc (Nat.le_refl _) _⟩
 ·have HXY:Hid (decide (d.uid = u) = false):=decide_eq_false hxy
  have hq:(d.uid.toList == u.toList) = false:=by simpa using fun h => hxy (hbi.1 h)
  clear hbi hxy
  go_enter Tryz.func197,Tryz.ntmps197
  go_wp2
  go_ret
  exact ⟨ret_bool HXY.out.symm,(Below.refl _ _).alloc (Nat.le_refl _) _⟩
set_option maxHeartbeats 1000000 in
theorem IndexNode_c (l:List Nd) (n:Nat) (u:ByteArray) (bu:Nat) (v:Value) (B:Nat) (w:World) (h:NodesAt w B l v) (hB:B ≤ w.heap.size) (hn:l.length = n) (hb:w.cell? ⟨bu,0,none⟩ = some (.string u)) (hbl:bu < w.heap.size) :
  Calls Tryz.prog 196 #[v, .func (.func 197) #[] #[.pointer (some ⟨bu,0,none⟩)]] w fun e w' => e = .returned (.int .i64 (idxZ (fun d:Nd => decide (d.uid = u)) l 0)) ∧ Below w.heap.size w w':=by
 obtain ⟨a,cap,rfl,hcap,hmx⟩:=h.slice
 have HS:=Lib.hid h
 have HB:=Lib.hid hb
 have hlm:n ≤ 9223372036854775807:=by unfold maxLen at hmx; omega
 have HN:=Lib.hid hn
 rw [hn]
 clear h hb hn hcap hmx
 go_enter Tryz.func196,Tryz.ntmps196
 go_wp2
 go_loopw [8] (fun q wr => ∃ k:Nat,q = .int .i64 k ∧ k ≤ n ∧ Below w.heap.size w wr ∧ idxZ (fun d:Nd => decide (d.uid = u)) (l.drop k) k = idxZ (fun d:Nd => decide (d.uid = u)) l 0) (fun q _ => n - (intOf q).toNat)
 case atStart => exact ⟨0,rfl,Nat.zero_le _,Below.refl _ _,rfl⟩
 case round =>
  obtain ⟨k,rfl,hk,hBr,hr⟩:=hrel
  by_cases hlt:k < n
  ·obtain ⟨b,off,cp,e1,hb',hu,iv,sv,c0,c1,c2,c3,c4,c5,c6,hin⟩:=((HS.out.mono hB).keep hBr).at_ k (by have:=HN.out; omega)
   rw [HN.out] at e1
   simp only [Value.slice.injEq,true_and] at e1
   obtain ⟨rfl,rfl⟩:=e1
   obtain ⟨a2,cap2,rfl,_,_⟩:=hin.2.slice
   obtain ⟨_,ai,capi,rfl,_,_,_⟩:=id hin.1
   rw [List.drop_eq_getElem_cons (by have:=HN.out; omega)] at hr
   simp only [idxZ] at hr
   generalize l[k]'_ = y at *
   have HY:Hid (NdAt wr w.heap.size (.agg #[.string y.uid, .int .u8 y.kind, .slice ai y.ins.length capi, .int .u8 y.x.op, .int .i64 y.x.n, .slice a2 y.x.args.length cap2, .int .i64 y.n]) y):=⟨_,_,rfl,hin,hu⟩
   have HR:=Lib.hid hr
   rename_i hx1 hx2 hx3
   clear hr hin hx1 hx2 hx3 hu
   have hbw:w.heap.size ≤ wr.heap.size:=hBr.size
   have HBr:=Lib.hid ((hBr.cell (p:=⟨bu,0,none⟩) hbl).trans HB.out)
   cases hc:decide (y.uid = u)
   all_goals
    have HC:=Lib.hid hc
    clear hc
    go_wp2_with (go_at_call 197; refine (find1_c y u bu _ _ _ HY.out HBr.out (by omega)).mono ?_; rintro e w3 ⟨rfl,hb3⟩; rw [HC.out])
   ·go_roundw
    case rel => exact ⟨k + 1,by go_num,by omega,hBr.trans (hb3.mono hbw),by rw [← HR.out,HC.out]; rfl⟩
    case measure => simp [intOf]; omega
   ·go_ret
    exact ⟨ret_int (by rw [← HR.out,HC.out]; rfl),hBr.trans (hb3.mono hbw)⟩
  ·rw [List.drop_of_length_le (by have:=HN.out; omega)] at hr
   have HR:=Lib.hid hr
   clear hr
   go_wp2
   go_ret
   exact ⟨ret_int (by rw [← HR.out]; rfl),hBr⟩
def Jb.find (j:Jb) (u:ByteArray):Int:=idxZ (fun d:Nd => decide (d.uid = u)) j.nodes 0
set_option maxHeartbeats 1000000 in
theorem Find_c (jb:Jb) (u:ByteArray) (v:Value) (B:Nat) (w:World) (hv:JbAt w B v jb) (hB:B ≤ w.heap.size) :
  Calls Tryz.prog 155 #[v, .string u] w fun e w' => e = .returned (.int .i64 (jb.find u)) ∧ Below w.heap.size w w':=by
 have hmf:∀ (fn:Fn) (first cap:Array Value) (w:World),(Instr.makeFunc fn first cap).run Tryz.prog w = .ok (.func fn first cap) w:=fun _ _ _ _ => rfl
 obtain ⟨sv,rfl,hs⟩:=hv
 obtain ⟨a,cap,rfl,hcap,hmx⟩:=hs.slice
 have HS:=Lib.hid hs
 have HE:Hid (jb.find u = idxZ (fun d:Nd => decide (d.uid = u)) jb.nodes 0):=rfl
 generalize jb.nodes = l at *
 generalize jb.par = par at *
 have hb2:=((Below.refl w.heap.size w).alloc (Nat.le_refl _) (.cells #[.int .i64 par, .slice a l.length cap] 26)).alloc (by simp) (.cells #[.string u] 9)
 have hN:=Lib.hid ((Blk.new_at (w.alloc (.cells #[.int .i64 par, .slice a l.length cap] 26)) #[.string u] 9 (k:=w.heap.size + 1) (by simp)).cell 0)
 have HSZ:Hid (((w.alloc (.cells #[.int .i64 par, .slice a l.length cap] 26)).alloc (.cells #[.string u] 9)).heap.size = w.heap.size + 2):=by simp [Hid]
 clear hs
 go_enter Tryz.func155,Tryz.ntmps155
 go_wp2_with (go_at_call 196; refine (IndexNode_c l _ u (w.heap.size + 1) _ w.heap.size _ ((HS.out.mono hB).keep hb2) hb2.size rfl hN.out (by have:=HSZ.out; omega)).mono ?_; rintro e w3 ⟨rfl,hb3⟩)
 go_ret
 exact ⟨ret_int HE.out.symm,hb2.trans (hb3.mono hb2.size)⟩
def InsP (w:World) (P:Nat → Prop) (l:List Int) (v:Value):Prop :=
 (l = [] ∧ v = .slice none 0 0) ∨ ∃ g cap,v = .slice (some ⟨g,0,none⟩) l.length cap ∧ P g ∧ l.length ≤ cap ∧ cap ≤ maxLen ∧ ∀ j,j < l.length → w.cell? ⟨g,j,none⟩ = (l.map (Value.int .i64))[j]?
theorem InsP.keep {w w':World} {P Q:Nat → Prop} {l:List Int} {v:Value} (h:InsP w P l v) (hPQ:∀ b,P b → Q b) (hk:∀ b,P b → w'.heap[b]? = w.heap[b]?):InsP w' Q l v:=by
 refine h.imp id ?_
 rintro ⟨g,cap,rfl,hp,h1,h2,h3⟩
 exact ⟨g,cap,rfl,hPQ g hp,h1,h2,fun j hj => (World.cell?_of_block (hk g hp)).trans (h3 j hj)⟩
theorem InsP.sl {w:World} {P:Nat → Prop} {B:Nat} {l:List Int} {v:Value} (h:InsP w P l v) (hP:∀ b,P b → b < B):Sl w B 1 v l.length (l.map (Value.int .i64)):=by
 rcases h with ⟨rfl,rfl⟩ | ⟨g,cap,rfl,hp,h1,h2,h3⟩
 ·exact Sl.nil w B 1
 ·exact ⟨by simp,_,cap,rfl,h1,h2, .inr ⟨g,0,rfl,hP g hp,fun j hj => by rw [Nat.zero_add]; exact h3 j (by omega)⟩⟩
theorem InsP.of_own {w:World} {B0:Nat} {e:TypeId} {l:List Int} {v:Value} (h:w.ownsRow B0 e 1 v l.length (l.map (Value.int .i64))):InsP w (fun b => B0 ≤ b ∧ b < w.heap.size) l v:=by
 obtain ⟨h1,h2⟩:=h
 rcases h2 with ⟨rfl,h0⟩ | ⟨g,cap,cur,rfl,hb,hg,hn,hcp,hsz,ht⟩
 ·exact .inl ⟨List.length_eq_zero_iff.1 h0,rfl⟩
 ·refine .inr ⟨g,cap,rfl,⟨hb,(Array.getElem?_eq_some_iff.1 hg).1⟩,hn,hcp,fun j hj => ?_⟩
  rw [cell_of_row w g j cur e (0,0) hg, ← ht,List.getElem?_take,if_pos (by omega)]
  simp
def RSameC (h:Nat):Prop:=∀ (x y:Ex) (v u:Value) (B:Nat) (w:World),x.ht ≤ h → ExAt w B v x → ExAt w B u y → B ≤ w.heap.size →
 Calls Tryz.prog 140 #[v,u] w fun e w' => e = .returned (.bool (x.sameB y)) ∧ Below w.heap.size w w'
set_option maxHeartbeats 1000000 in
set_option maxRecDepth 100000 in
theorem rsame_step (h:Nat) (IH:Hid (∀ x y:Ex,x.ht < h → ∀ (v u:Value) (B:Nat) (w:World),ExAt w B v x → ExAt w B u y → B ≤ w.heap.size →
   Calls Tryz.prog 140 #[v,u] w fun e w' => e = .returned (.bool (x.sameB y)) ∧ Below w.heap.size w w')):RSameC h:=by
 intro x y v u B w hh hv hu hB
 have HLT:Hid (∀ a ∈ x.args,a.ht < h):=fun a ha => by have:=Ex.ht_args x a ha; omega
 have HE:=Lib.hid (Ex.sameB_eq x y)
 obtain ⟨sv,rfl,hs⟩:=hv
 obtain ⟨su,rfl,ht⟩:=hu
 obtain ⟨a,cap,rfl,hcap,hmx⟩:=hs.slice
 obtain ⟨a',cap',rfl,hcap',hmx'⟩:=ht.slice
 have HS:=Lib.hid hs
 have HT:=Lib.hid ht
 generalize x.op = o at *
 generalize x.n = n at *
 generalize y.op = o' at *
 generalize y.n = n' at *
 generalize x.args = l at *
 generalize y.args = m at *
 clear hs ht hh
 have hlm:l.length ≤ 9223372036854775807:=by unfold maxLen at hmx; omega
 by_cases h1:o = o'
 ·by_cases h2:n = n'
  ·by_cases h3:l.length = m.length
   ·have hq1:(o != o') = false:=by simpa using h1
    have hq2:(n != n') = false:=by simpa using h2
    have HE2:Hid (x.sameB y = Exs.sameB l m):=by show _ = _; rw [HE.out,decide_eq_true h1,decide_eq_true h2]; rfl
    obtain ⟨k,hk⟩:∃ k,l.length = k:=⟨_,rfl⟩
    have hk':m.length = k:=by omega
    rw [hk] at hlm
    have HK:=Lib.hid hk
    have HK':=Lib.hid hk'
    rw [hk,hk']
    clear h1 h2 HE hk hk' h3
    go_enter Tryz.func140,Tryz.ntmps140
    go_wp2
    have hW:=((Below.refl w.heap.size w).alloc (Nat.le_refl _) (.cells #[.int .u8 o, .int .i64 n, .slice a k cap] 179)).alloc (by simp) (.cells #[.int .u8 o', .int .i64 n', .slice a' k cap'] 179)
    have hb1:=(Blk.new w #[.int .u8 o, .int .i64 n, .slice a k cap] 179).alloc (.cells #[.int .u8 o', .int .i64 n', .slice a' k cap'] 179)
    have hb2:=Blk.new_at (w.alloc (.cells #[.int .u8 o, .int .i64 n, .slice a k cap] 179)) #[.int .u8 o', .int .i64 n', .slice a' k cap'] 179 (k:=w.heap.size + 1) (by simp)
    have hsz:((w.alloc (.cells #[.int .u8 o, .int .i64 n, .slice a k cap] 179)).alloc (.cells #[.int .u8 o', .int .i64 n', .slice a' k cap'] 179)).heap.size = w.heap.size + 2:=by simp
    generalize World.alloc (World.alloc w _) _ = W at *
    have HSZ:=Lib.hid hsz
    have hsz1:w.heap.size + 2 ≤ W.heap.size:=by omega
    clear hsz
    go_loopw [5] (fun q wr => ∃ j:Nat,q = .int .i64 j ∧ j ≤ k ∧ Below W.heap.size W wr ∧ Exs.sameB (l.drop j) (m.drop j) = Exs.sameB l m) (fun q _ => k - (intOf q).toNat)
    case atStart => exact ⟨0,rfl,Nat.zero_le _,Below.refl _ _,rfl⟩
    case round =>
     obtain ⟨j,rfl,hj,hBr,hr⟩:=hrel
     have hbr1:=hb1.below hBr hb1.lt
     have hbr2:=hb2.below hBr hb2.lt
     have p2:=hbr1.cell 2
     have q2:=hbr2.cell 2
     by_cases hlt:j < k
     ·have hj1:j < l.length:=by have:=HK.out; omega
      have hj2:j < m.length:=by have:=HK'.out; omega
      have hBw:=hW.trans (hBr.mono (by omega))
      obtain ⟨b,off,cp,sv,e1,hb,c0,c1,c2,hsub⟩:=((HS.out.mono hB).keep hBw).at_ j hj1
      obtain ⟨b',off',cp',sv',e2,hb',d0,d1,d2,hsub'⟩:=((HT.out.mono hB).keep hBw).at_ j hj2
      rw [HK.out] at e1
      rw [HK'.out] at e2
      simp only [Value.slice.injEq,true_and] at e1 e2
      obtain ⟨rfl,rfl⟩:=e1
      obtain ⟨rfl,rfl⟩:=e2
      obtain ⟨a2,cap2,rfl,_,_⟩:=hsub.slice
      obtain ⟨a3,cap3,rfl,_,_⟩:=hsub'.slice
      rw [List.drop_eq_getElem_cons hj1,List.drop_eq_getElem_cons hj2] at hr
      simp only [Exs.sameB] at hr
      have hht:=HLT.out _ (List.getElem_mem hj1)
      generalize l[j] = x' at *
      generalize m[j] = y' at *
      have HX:Hid (ExAt wr w.heap.size (.agg #[.int .u8 x'.op, .int .i64 x'.n, .slice a2 x'.args.length cap2]) x'):=⟨_,rfl,hsub⟩
      have HY:Hid (ExAt wr w.heap.size (.agg #[.int .u8 y'.op, .int .i64 y'.n, .slice a3 y'.args.length cap3]) y'):=⟨_,rfl,hsub'⟩
      have HR:=Lib.hid hr
      clear hr hsub hsub'
      go_wp2
      go_still_tail 10,(by kernel_rfl)
      cases hs:x'.sameB y'
      all_goals
       have HSB:=Lib.hid hs
       clear hs
       go_wp2_with (go_at_call 140; refine (IH.out x' y' hht _ _ w.heap.size _ (HX.out.keep (Below.refl _ wr).drew) (HY.out.keep (Below.refl _ wr).drew) (by have:=hBr.size; first | omega | (simp; omega))).mono ?_; rintro e w3 ⟨rfl,hb3⟩; rw [HSB.out])
      ·go_ret
       exact ⟨ret_bool (by rw [HE2.out, ← HR.out,HSB.out]; rfl),hBw.drew.trans (hb3.mono hBw.size)⟩
      ·go_roundw
       case rel => exact ⟨j + 1,by go_num,by omega,hBr.drew.trans (hb3.mono hBr.size),by rw [← HR.out,HSB.out,Bool.true_and]⟩
       case measure => simp [intOf]; omega
     ·rw [List.drop_of_length_le (by have:=HK.out; omega),List.drop_of_length_le (by have:=HK'.out; omega)] at hr
      have HR:=Lib.hid hr
      clear hr
      go_wp2
      go_ret
      exact ⟨ret_bool (by rw [HE2.out, ← HR.out]; rfl),hW.trans (hBr.mono (by omega))⟩
   ·have hq1:(o != o') = false:=by simpa using h1
    have hq2:(n != n') = false:=by simpa using h2
    have hq3:((l.length:Int) != (m.length:Int)) = true:=by rw [bne_iff_ne]; omega
    have HE2:Hid (x.sameB y = false):=by show _ = _; rw [HE.out,Exs.sameB_len l m h3,Bool.and_false,Bool.and_false]
    clear h1 h2 h3 HE
    go_enter Tryz.func140,Tryz.ntmps140
    go_wp2
    go_ret
    exact ⟨ret_bool HE2.out.symm,((Below.refl _ _).alloc (Nat.le_refl _) _).alloc (by simp) _⟩
  ·have hq1:(o != o') = false:=by simpa using h1
   have hq2:(n != n') = true:=by simpa using h2
   have HE2:Hid (x.sameB y = false):=by show _ = _; rw [HE.out,decide_eq_false h2,Bool.false_and,Bool.and_false]
   clear h1 h2 HE
   go_enter Tryz.func140,Tryz.ntmps140
   go_wp2
   go_ret
   exact ⟨ret_bool HE2.out.symm,((Below.refl _ _).alloc (Nat.le_refl _) _).alloc (by simp) _⟩
 ·have hq1:(o != o') = true:=by simpa using h1
  have HE2:Hid (x.sameB y = false):=by show _ = _; rw [HE.out,decide_eq_false h1,Bool.false_and]
  clear h1 HE
  go_enter Tryz.func140,Tryz.ntmps140
  go_wp2
  go_ret
  exact ⟨ret_bool HE2.out.symm,((Below.refl _ _).alloc (Nat.le_refl _) _).alloc (by simp) _⟩
theorem rsame_all (h:Nat):RSameC h:=by
 induction h using Nat.strongRecOn with
 | ind h ih => exact rsame_step h (fun x y hx v u B w hv hu hB => ih x.ht hx x y v u B w (Nat.le_refl _) hv hu hB)
theorem rSame_c (x y:Ex) (v u:Value) (B:Nat) (w:World) (hv:ExAt w B v x) (hu:ExAt w B u y) (hB:B ≤ w.heap.size) :
  Calls Tryz.prog 140 #[v,u] w fun e w' => e = .returned (.bool (x.sameB y)) ∧ Below w.heap.size w w':=rsame_all x.ht x y v u B w (Nat.le_refl _) hv hu hB
def intsB:List Int → List Int → Bool
 | [],[] => true
 | x :: l,y :: m => (x == y) && intsB l m
 | _,_ => false
theorem intsB_len:∀ (l m:List Int),l.length ≠ m.length → intsB l m = false
 | [],[],h => absurd rfl h
 | [],_ :: _,_ => rfl
 | _ :: _,[],_ => rfl
 | x :: l,y :: m,h => by simp only [intsB]; rw [intsB_len l m (by simpa using h),Bool.and_false]
theorem intsB_iff:∀ (l m:List Int),intsB l m = true ↔ l = m
 | [],[] => by simp [intsB]
 | [],_ :: _ => by simp [intsB]
 | _ :: _,[] => by simp [intsB]
 | x :: l,y :: m => by simp [intsB,intsB_iff l m]
set_option maxHeartbeats 400000 in
theorem EqualInt_c (l1 l2:List Int) (n1 n2:Nat) (v1 v2:Value) (B:Nat) (w:World) (h1:Sl w B 1 v1 n1 (l1.map (Value.int .i64))) (h2:Sl w B 1 v2 n2 (l2.map (Value.int .i64))) (hn1:l1.length = n1) (hn2:l2.length = n2) :
  Calls Tryz.prog 124 #[v1,v2] w fun e w' => e = .returned (.bool (intsB l1 l2)) ∧ ∃ n,w' = w.drewN n:=by
 by_cases hl:n1 = n2
 ·obtain rfl:n1 = n2:=hl
  obtain ⟨_,a1,cap1,rfl,hc1,hm1,_⟩:=id h1
  obtain ⟨_,a2,cap2,rfl,hc2,hm2,_⟩:=id h2
  have H1:=Lib.hid h1
  have H2:=Lib.hid h2
  have HN1:=Lib.hid hn1
  have HN2:=Lib.hid hn2
  have hnm:n1 ≤ 9223372036854775807:=by unfold maxLen at hm1; omega
  clear h1 h2 hn1 hn2
  rename_i hx1 hx2 hx3 hx4
  clear hx1 hx2 hx3 hx4
  go_enter Tryz.func124,Tryz.ntmps124
  go_wp2
  go_loopw [13] (fun i wr => ∃ k m:Nat,i = .int .i64 k ∧ k ≤ n1 ∧ wr = w.drewN m ∧ intsB (l1.drop k) (l2.drop k) = intsB l1 l2) (fun i _ => n1 - (intOf i).toNat)
  case atStart => exact ⟨0,0,rfl,by omega,rfl,rfl⟩
  case round =>
   obtain ⟨k,m,rfl,hk,rfl,hr⟩:=hrel
   by_cases hlt:k < n1
   ·obtain ⟨b1,o1,c1,e1,_,g1,p0⟩:=H1.out.int k hlt
    obtain ⟨b2,o2,c2,e2,_,g2,q0⟩:=H2.out.int k hlt
    simp only [Value.slice.injEq,true_and] at e1 e2
    obtain ⟨rfl,rfl⟩:=e1
    obtain ⟨rfl,rfl⟩:=e2
    rw [List.drop_eq_getElem_cons g1,List.drop_eq_getElem_cons g2] at hr
    generalize l1[k] = x at *
    generalize l2[k] = y at *
    simp only [intsB] at hr
    have HR:=Lib.hid hr
    clear hr
    by_cases hxy:x = y
    ·have HXY:Hid ((x == y) = true):=by simpa [Hid] using hxy
     have hq:(x != y) = false:=by simpa using hxy
     clear hxy
     go_wp2
     go_quiet (fail)
     go_wp2
     go_roundw
     case rel => exact ⟨k + 1,m + nq,by go_num,by omega,rfl,by rw [← HR.out,HXY.out,Bool.true_and]⟩
     case measure => simp [intOf]; omega
    ·have HXY:Hid ((x == y) = false):=by simpa [Hid] using hxy
     have hq:(x != y) = true:=by simpa using hxy
     clear hxy
     go_wp2
     go_quiet (fail)
     go_wp2
     go_ret
     exact ⟨ret_bool (by rw [← HR.out,HXY.out]; rfl),_,World.drewN_drewN _ _ _⟩
   ·have e1:l1.drop k = []:=List.drop_of_length_le (by have:=HN1.out; omega)
    have e2:l2.drop k = []:=List.drop_of_length_le (by have:=HN2.out; omega)
    rw [e1,e2] at hr
    have HR:=Lib.hid hr
    clear hr e1 e2
    go_wp2
    go_ret
    exact ⟨ret_bool (by rw [← HR.out]; rfl),_,rfl⟩
 ·obtain ⟨_,a1,cap1,rfl,hc1,hm1,_⟩:=h1
  obtain ⟨_,a2,cap2,rfl,hc2,hm2,_⟩:=h2
  rename_i hx1 hx2 hx3 hx4
  clear hx1 hx2 hx3 hx4
  have hne:((n1:Int) != (n2:Int)) = true:=by rw [bne_iff_ne]; omega
  have HE:=Lib.hid (intsB_len l1 l2 (by omega))
  clear hn1 hn2
  go_enter Tryz.func124,Tryz.ntmps124
  go_wp2
  go_ret
  exact ⟨ret_bool HE.out.symm,0,rfl⟩
def Nd.sameB (x y:Nd):Bool:=decide (x.uid = y.uid) && ((x.kind == y.kind) && ((x.n == y.n) && (intsB x.ins y.ins && x.x.sameB y.x)))
def Nds.sameB:List Nd → List Nd → Bool
 | [],[] => true
 | x :: l,y :: m => x.sameB y && Nds.sameB l m
 | _,_ => false
theorem Nds.sameB_len:∀ (l m:List Nd),l.length ≠ m.length → Nds.sameB l m = false
 | [],[],h => absurd rfl h
 | [],_ :: _,_ => rfl
 | _ :: _,[],_ => rfl
 | x :: l,y :: m,h => by simp only [Nds.sameB]; rw [Nds.sameB_len l m (by simpa using h),Bool.and_false]
def Jb.sameB (x y:Jb):Bool:=(x.par == y.par) && Nds.sameB x.nodes y.nodes
theorem Nd.sameB_cases (x y:Nd):((x.uid = y.uid) ∧ (x.kind = y.kind) ∧ (x.n = y.n) ∧ intsB x.ins y.ins = true ∧ x.sameB y = x.x.sameB y.x) ∨
  (x.sameB y = false ∧ (¬ (x.uid = y.uid) ∨ (x.uid = y.uid ∧ ¬ x.kind = y.kind) ∨ (x.uid = y.uid ∧ x.kind = y.kind ∧ ¬ x.n = y.n) ∨ (x.uid = y.uid ∧ x.kind = y.kind ∧ x.n = y.n ∧ intsB x.ins y.ins = false))):=by
 unfold Nd.sameB
 by_cases h1:x.uid = y.uid
 ·by_cases h2:x.kind = y.kind
  ·by_cases h3:x.n = y.n
   ·cases h4:intsB x.ins y.ins
    ·simp [h1,h2,h3]
    ·simp [h1,h2,h3]
   ·simp [h1,h2,h3]
  ·simp [h1,h2]
 ·simp [h1]
set_option maxHeartbeats 1000000 in
theorem nsame_c (x y:Nd) (v u:Value) (B:Nat) (w:World) (hv:NdAt w B v x) (hu:NdAt w B u y) (hB:B ≤ w.heap.size) :
  Calls Tryz.prog 123 #[v,u] w fun e w' => e = .returned (.bool (x.sameB y)) ∧ Below w.heap.size w w':=by
 obtain ⟨iv,sv,rfl,⟨hi,hs⟩,hu1⟩:=hv
 obtain ⟨jv,tv,rfl,⟨hj,ht⟩,hu2⟩:=hu
 obtain ⟨_,ai,capi,rfl,hc1,hm1,_⟩:=id hi
 obtain ⟨_,bi,capj,rfl,hc2,hm2,_⟩:=id hj
 obtain ⟨ax,capx,rfl,_,_⟩:=hs.slice
 obtain ⟨bx,capy,rfl,_,_⟩:=ht.slice
 rename_i hx1 hx2 hx3 hx4 hx5 hx6
 have hW:=((Below.refl w.heap.size w).alloc (Nat.le_refl _) (.cells #[.string x.uid, .int .u8 x.kind, .slice ai x.ins.length capi, .int .u8 x.x.op, .int .i64 x.x.n, .slice ax x.x.args.length capx, .int .i64 x.n] 181)).alloc (by simp) (.cells #[.string y.uid, .int .u8 y.kind, .slice bi y.ins.length capj, .int .u8 y.x.op, .int .i64 y.x.n, .slice bx y.x.args.length capy, .int .i64 y.n] 181)
 have hwz:w.heap.size + 2 = ((w.alloc (.cells #[.string x.uid, .int .u8 x.kind, .slice ai x.ins.length capi, .int .u8 x.x.op, .int .i64 x.x.n, .slice ax x.x.args.length capx, .int .i64 x.n] 181)).alloc (.cells #[.string y.uid, .int .u8 y.kind, .slice bi y.ins.length capj, .int .u8 y.x.op, .int .i64 y.x.n, .slice bx y.x.args.length capy, .int .i64 y.n] 181)).heap.size:=by simp
 have hNX:=(Blk.new w #[.string x.uid, .int .u8 x.kind, .slice ai x.ins.length capi, .int .u8 x.x.op, .int .i64 x.x.n, .slice ax x.x.args.length capx, .int .i64 x.n] 181).alloc (.cells #[.string y.uid, .int .u8 y.kind, .slice bi y.ins.length capj, .int .u8 y.x.op, .int .i64 y.x.n, .slice bx y.x.args.length capy, .int .i64 y.n] 181)
 have hNY:=Blk.new_at (w.alloc (.cells #[.string x.uid, .int .u8 x.kind, .slice ai x.ins.length capi, .int .u8 x.x.op, .int .i64 x.x.n, .slice ax x.x.args.length capx, .int .i64 x.n] 181)) #[.string y.uid, .int .u8 y.kind, .slice bi y.ins.length capj, .int .u8 y.x.op, .int .i64 y.x.n, .slice bx y.x.args.length capy, .int .i64 y.n] 181 (k:=w.heap.size + 1) (by simp)
 have HI:=Lib.hid hi
 have HJ:=Lib.hid hj
 have HX:Hid (∀ X,Below w.heap.size w X → ExAt X X.heap.size (.agg #[.int .u8 x.x.op, .int .i64 x.x.n, .slice ax x.x.args.length capx]) x.x):=fun X hX => ⟨_,rfl,((hs.mono hB).keep hX).mono hX.size⟩
 have HY:Hid (∀ X,Below w.heap.size w X → ExAt X X.heap.size (.agg #[.int .u8 y.x.op, .int .i64 y.x.n, .slice bx y.x.args.length capy]) y.x):=fun X hX => ⟨_,rfl,((ht.mono hB).keep hX).mono hX.size⟩
 have hbi:=bytes_inj x.uid y.uid
 have hcs:=Nd.sameB_cases x y
 clear hi hj hs ht hx1 hx2 hx3 hx4 hx5 hx6 hu1 hu2 hc1 hc2 hm1 hm2
 have HCS:=Lib.hid hcs
 clear hcs
 have HL1:Hid (x.ins.length = x.ins.length):=rfl
 rcases HCS.out with ⟨h1,h2,h3,h4,hr⟩ | ⟨hr,hc⟩
 ·have q1:(x.uid.toList == y.uid.toList) = true:=by simpa using hbi.2 h1
  have q2:(x.kind == y.kind) = true:=by simpa using h2
  have q3:(x.n == y.n) = true:=by simpa using h3
  have H4:=Lib.hid h4
  have HR:=Lib.hid hr
  clear h1 h2 h3 h4 hr hbi
  go_enter Tryz.func123,Tryz.ntmps123
  go_wp2_with fail
  generalize World.alloc (World.alloc w _) _ = W at *
  have HWZ:=Lib.hid hwz
  have hwz2:w.heap.size + 2 ≤ W.heap.size:=by omega
  have x0:=hNX.cell 0
  have x1:=hNX.cell 1
  have x2:=hNX.cell 2
  have x3:=hNX.cell 3
  have x4:=hNX.cell 4
  have x5:=hNX.cell 5
  have x6:=hNX.cell 6
  have y0:=hNY.cell 0
  have y1:=hNY.cell 1
  have y2:=hNY.cell 2
  have y3:=hNY.cell 3
  have y4:=hNY.cell 4
  have y5:=hNY.cell 5
  have y6:=hNY.cell 6
  clear hwz
  go_wp2_with (first
   | (go_at_call 124; refine (EqualInt_c x.ins y.ins _ _ _ _ B _ (HI.out.below (hW.mono hB)) (HJ.out.below (hW.mono hB)) rfl rfl).mono ?_; rintro e w3 ⟨rfl,nq,rfl⟩; rw [H4.out])
   | (go_at_call 125; refine (Same_c x.x y.x _ _ _ _ (HX.out _ (below_drewN hW nq)) (HY.out _ (below_drewN hW nq)) (Nat.le_refl _)).mono ?_; rintro e w4 ⟨rfl,hb4⟩))
  go_ret
  exact ⟨ret_bool HR.out.symm,(below_drewN hW nq).trans (hb4.mono (by simp; omega))⟩
 ·have HR:=Lib.hid hr
  clear hr HCS
  rcases hc with h1 | ⟨h1,h2⟩ | ⟨h1,h2,h3⟩ | ⟨h1,h2,h3,h4⟩
  ·have q1:(x.uid.toList == y.uid.toList) = false:=by simpa using fun h => h1 (hbi.1 h)
   clear h1 hbi hNX hNY hwz
   go_enter Tryz.func123,Tryz.ntmps123
   go_wp2_with fail
   go_ret
   exact ⟨ret_bool HR.out.symm,hW⟩
  ·have q1:(x.uid.toList == y.uid.toList) = true:=by simpa using hbi.2 h1
   have q2:(x.kind == y.kind) = false:=by simpa using h2
   clear h1 h2 hbi hNX hNY hwz
   go_enter Tryz.func123,Tryz.ntmps123
   go_wp2_with fail
   go_ret
   exact ⟨ret_bool HR.out.symm,hW⟩
  ·have q1:(x.uid.toList == y.uid.toList) = true:=by simpa using hbi.2 h1
   have q2:(x.kind == y.kind) = true:=by simpa using h2
   have q3:(x.n == y.n) = false:=by simpa using h3
   clear h1 h2 h3 hbi hNX hNY hwz
   go_enter Tryz.func123,Tryz.ntmps123
   go_wp2_with fail
   go_ret
   exact ⟨ret_bool HR.out.symm,hW⟩
  ·have q1:(x.uid.toList == y.uid.toList) = true:=by simpa using hbi.2 h1
   have q2:(x.kind == y.kind) = true:=by simpa using h2
   have q3:(x.n == y.n) = true:=by simpa using h3
   have H4:=Lib.hid h4
   clear h1 h2 h3 h4 hbi hNX hNY hwz
   go_enter Tryz.func123,Tryz.ntmps123
   go_wp2_with (go_at_call 124; refine (EqualInt_c x.ins y.ins _ _ _ _ B _ (HI.out.below (hW.mono hB)) (HJ.out.below (hW.mono hB)) rfl rfl).mono ?_; rintro e w3 ⟨rfl,nq,rfl⟩; rw [H4.out])
   go_ret
   exact ⟨ret_bool HR.out.symm,below_drewN hW nq⟩
set_option maxHeartbeats 1000000 in
theorem eqNodes_c (l m:List Nd) (v u:Value) (B:Nat) (w:World) (hv:NodesAt w B l v) (hu:NodesAt w B m u) (hB:B ≤ w.heap.size) :
  Calls Tryz.prog 122 #[v,u, .func (.func 123) #[] #[]] w fun e w' => e = .returned (.bool (Nds.sameB l m)) ∧ Below w.heap.size w w':=by
 obtain ⟨a,cap,rfl,hcap,hmx⟩:=hv.slice
 obtain ⟨a',cap',rfl,hcap',hmx'⟩:=hu.slice
 by_cases hlen:l.length = m.length
 ·obtain ⟨n,hn⟩:∃ n,l.length = n:=⟨_,rfl⟩
  have hn':m.length = n:=by omega
  have HV:=Lib.hid hv
  have HU:=Lib.hid hu
  have HN:=Lib.hid hn
  have HN':=Lib.hid hn'
  have hnm:n ≤ 9223372036854775807:=by unfold maxLen at hmx; omega
  rw [hn,hn']
  clear hv hu hn hn' hlen
  go_enter Tryz.func122,Tryz.ntmps122
  go_wp2
  go_loopw [17] (fun q wr => ∃ j:Nat,q = .int .i64 j ∧ j ≤ n ∧ Below w.heap.size w wr ∧ Nds.sameB (l.drop j) (m.drop j) = Nds.sameB l m) (fun q _ => n - (intOf q).toNat)
  case atStart => exact ⟨0,rfl,Nat.zero_le _,Below.refl _ _,rfl⟩
  case round =>
   obtain ⟨j,rfl,hj,hBr,hr⟩:=hrel
   by_cases hlt:j < n
   ·have hj1:j < l.length:=by have:=HN.out; omega
    have hj2:j < m.length:=by have:=HN'.out; omega
    obtain ⟨b,off,cp,e1,hb,hu,iv,sv,c0,c1,c2,c3,c4,c5,c6,hin⟩:=((HV.out.mono hB).keep hBr).at_ j hj1
    obtain ⟨b',off',cp',e2,hb',hu',iv',sv',d0,d1,d2,d3,d4,d5,d6,hin'⟩:=((HU.out.mono hB).keep hBr).at_ j hj2
    rw [HN.out] at e1
    rw [HN'.out] at e2
    simp only [Value.slice.injEq,true_and] at e1 e2
    obtain ⟨rfl,rfl⟩:=e1
    obtain ⟨rfl,rfl⟩:=e2
    obtain ⟨a2,cap2,rfl,_,_⟩:=hin.2.slice
    obtain ⟨a3,cap3,rfl,_,_⟩:=hin'.2.slice
    obtain ⟨_,ai,capi,rfl,_,_,_⟩:=id hin.1
    obtain ⟨_,bi,capj,rfl,_,_,_⟩:=id hin'.1
    rw [List.drop_eq_getElem_cons hj1,List.drop_eq_getElem_cons hj2] at hr
    simp only [Nds.sameB] at hr
    have hbw:=Nat.lt_of_lt_of_le hb hBr.size
    have hbw':=Nat.lt_of_lt_of_le hb' hBr.size
    generalize l[j] = x at *
    generalize m[j] = y at *
    have HX:Hid (∀ X,Below wr.heap.size wr X → NdAt X X.heap.size (.agg #[.string x.uid, .int .u8 x.kind, .slice ai x.ins.length capi, .int .u8 x.x.op, .int .i64 x.x.n, .slice a2 x.x.args.length cap2, .int .i64 x.n]) x) :=
     fun X hX => ⟨_,_,rfl,(hin.keep (hX.mono hBr.size)).mono (Nat.le_trans hBr.size hX.size),hu⟩
    have HY:Hid (∀ X,Below wr.heap.size wr X → NdAt X X.heap.size (.agg #[.string y.uid, .int .u8 y.kind, .slice bi y.ins.length capj, .int .u8 y.x.op, .int .i64 y.x.n, .slice a3 y.x.args.length cap3, .int .i64 y.n]) y) :=
     fun X hX => ⟨_,_,rfl,(hin'.keep (hX.mono hBr.size)).mono (Nat.le_trans hBr.size hX.size),hu'⟩
    have HR:=Lib.hid hr
    rename_i hx1 hx2 hx3 hx4 hx5 hx6 hx7 hx8 hx9 hx10
    clear hr hin hin' hu hu' hx1 hx2 hx3 hx4 hx5 hx6 hx7 hx8 hx9 hx10
    cases hs:x.sameB y
    all_goals
     have HS:=Lib.hid hs
     clear hs
     go_wp2_with (go_at_call 123; refine (nsame_c x y _ _ _ _ (HX.out _ (((Below.refl _ _).alloc (Nat.le_refl _) _).alloc (by simp) _)) (HY.out _ (((Below.refl _ _).alloc (Nat.le_refl _) _).alloc (by simp) _)) (Nat.le_refl _)).mono ?_; rintro e w3 ⟨rfl,hb3⟩; rw [HS.out])
    ·go_ret
     exact ⟨ret_bool (by rw [← HR.out,HS.out]; rfl),((hBr.alloc hBr.size _).alloc (by have:=hBr.size; simp; omega) _).trans (hb3.mono (by have:=hBr.size; simp; omega))⟩
    ·go_roundw
     case rel => exact ⟨j + 1,by go_num,by omega,((hBr.alloc hBr.size _).alloc (by have:=hBr.size; simp; omega) _).trans (hb3.mono (by have:=hBr.size; simp; omega)),by rw [← HR.out,HS.out,Bool.true_and]⟩
     case measure => simp [intOf]; omega
   ·rw [List.drop_of_length_le (by have:=HN.out; omega),List.drop_of_length_le (by have:=HN'.out; omega)] at hr
    have HR:=Lib.hid hr
    clear hr
    go_wp2
    go_ret
    exact ⟨ret_bool (by rw [← HR.out]; rfl),hBr⟩
 ·have hne:((l.length:Int) != (m.length:Int)) = true:=by rw [bne_iff_ne]; omega
  have HF:=Lib.hid (Nds.sameB_len l m hlen)
  clear hlen hv hu
  go_enter Tryz.func122,Tryz.ntmps122
  go_wp2
  go_ret
  exact ⟨ret_bool HF.out.symm,Below.refl _ _⟩
set_option maxHeartbeats 1000000 in
theorem JSame_c (x y:Jb) (v u:Value) (B:Nat) (w:World) (hv:JbAt w B v x) (hu:JbAt w B u y) (hB:B ≤ w.heap.size) :
  Calls Tryz.prog 66 #[v,u] w fun e w' => e = .returned (.bool (x.sameB y)) ∧ Below w.heap.size w w':=by
 obtain ⟨sv,rfl,hs⟩:=hv
 obtain ⟨tv,rfl,ht⟩:=hu
 obtain ⟨a,cap,rfl,hcap,hmx⟩:=hs.slice
 obtain ⟨a',cap',rfl,hcap',hmx'⟩:=ht.slice
 have HS:=Lib.hid hs
 have HT:=Lib.hid ht
 have HE:Hid (x.sameB y = ((x.par == y.par) && Nds.sameB x.nodes y.nodes)):=rfl
 have hW:=((Below.refl w.heap.size w).alloc (Nat.le_refl _) (.cells #[.int .i64 x.par, .slice a x.nodes.length cap] 26)).alloc (by simp) (.cells #[.int .i64 y.par, .slice a' y.nodes.length cap'] 26)
 clear hs ht
 cases hp:(x.par == y.par)
 ·have HP:=Lib.hid hp
  go_enter Tryz.func66,Tryz.ntmps66
  go_wp2
  go_ret
  exact ⟨ret_bool (by rw [HE.out,HP.out]; rfl),hW⟩
 ·have HP:=Lib.hid hp
  go_enter Tryz.func66,Tryz.ntmps66
  go_wp2_with (go_at_call 122; refine (eqNodes_c x.nodes y.nodes _ _ B _ (HS.out.keep (hW.mono hB)) (HT.out.keep (hW.mono hB)) (by have:=hW.size; omega)).mono ?_; rintro e w3 ⟨rfl,hb3⟩)
  go_ret
  exact ⟨ret_bool (by rw [HE.out,HP.out]; rfl),hW.trans (hb3.mono hW.size)⟩
def Ex.zero:Ex := .mk 0 0 []
structure PSt where
 l:List Tok
 bad:Option Int
namespace PSt
def here (E:Int) (st:PSt):Int:=match st.l with | [] => E | t :: _ => t.at_
def fails (E:Int) (st:PSt):PSt:=match st.bad with | none => { st with bad:=some (st.here E) } | some _ => st
def isB (st:PSt) (s:List UInt8):Bool:=st.bad.isNone && (match st.l with | [] => false | t :: _ => decide (t.kind ≠ 0) && (decide (t.kind ≠ 2) && decide (t.text.toList = s)))
def next (st:PSt):PSt:={ st with l:=st.l.drop 1 }
def must (E:Int) (st:PSt) (s:List UInt8):PSt:=if st.isB s then st.next else st.fails E
def numB (st:PSt):Bool:=match st.l with | [] => false | t :: _ => decide (t.kind = 2)
def numN (st:PSt):Int:=match st.l with | [] => 0 | t :: _ => t.n
def need (lv:Nat) (st:PSt):Nat:=8 * st.l.length + (7 - lv)
theorem next_le (st:PSt):st.next.l.length ≤ st.l.length:=by simp [next]
theorem next_lt {st:PSt} {s:List UInt8} (h:st.isB s = true):st.next.l.length < st.l.length:=by
 obtain ⟨l,b⟩:=st
 cases l with
 | nil => simp [isB] at h
 | cons t l => simp [next]
theorem fails_l (E:Int) (st:PSt):(st.fails E).l = st.l:=by unfold fails; split <;> rfl
theorem must_le (E:Int) (st:PSt) (s:List UInt8):(st.must E s).l.length ≤ st.l.length:=by
 unfold must
 split
 ·exact next_le st
 ·rw [fails_l]; exact Nat.le_refl _
end PSt
def lvSigns:Nat → List (List UInt8 × Int)
 | 0 => [([124],17)]
 | 1 => [([38],16)]
 | 2 => [([60],12),([60,61],13),([61],14),([33,61],15)]
 | 3 => [([43],7),([45],8)]
 | _ => [([42],9),([47],10),([37],11)]
def lvMost (lv:Nat):Nat:=if lv = 2 then 1 else 400
def signOf (st:PSt):List (List UInt8 × Int) → Option Int
 | [] => none
 | (s,o) :: r => if st.isB s then some o else signOf st r
theorem signOf_lt {st:PSt} {o:Int}:∀ {sg:List (List UInt8 × Int)},signOf st sg = some o → st.next.l.length < st.l.length
 | [],h => by simp [signOf] at h
 | (s,o') :: r,h => by
  simp only [signOf] at h
  split at h
  ·exact PSt.next_lt (by assumption)
  ·exact signOf_lt h
def rowL (one:PSt → Ex × PSt) (sg:List (List UInt8 × Int)):Nat → Ex → PSt → Ex × PSt
 | 0,x,st => (x,st)
 | c + 1,x,st => if st.bad.isSome then (x,st) else match signOf st sg with
  | none => (x,st)
  | some o => rowL one sg c (.mk o 0 [x,(one st.next).1]) (one st.next).2
def wKey:List UInt8:=[107,101,121]
def wVal:List UInt8:=[118,97,108]
def wAcc:List UInt8:=[97,99,99]
def wIf:List UInt8:=[105,102]
def wThen:List UInt8:=[116,104,101,110]
def wElse:List UInt8:=[101,108,115,101]
def prUnary (rec:Nat → PSt → Ex × PSt) (st:PSt):Ex × PSt :=
 if st.isB [45] then (.mk 5 0 [(rec 5 st.next).1],(rec 5 st.next).2)
 else if st.isB [33] then (.mk 6 0 [(rec 5 st.next).1],(rec 5 st.next).2)
 else rec 6 st
def prIf (E:Int) (rec:Nat → PSt → Ex × PSt) (st:PSt):Ex × PSt :=
 (.mk 18 0 [(rec 0 st).1,(rec 0 ((rec 0 st).2.must E wThen)).1,(rec 0 ((rec 0 ((rec 0 st).2.must E wThen)).2.must E wElse)).1],(rec 0 ((rec 0 ((rec 0 st).2.must E wThen)).2.must E wElse)).2)
def prOne (E:Int) (rec:Nat → PSt → Ex × PSt) (st:PSt):Ex × PSt :=
 if st.bad.isSome then (Ex.zero,st)
 else if st.numB then (.mk 1 st.numN [],st.next)
 else if st.isB wKey then (.mk 2 0 [],st.next)
 else if st.isB wVal then (.mk 3 0 [],st.next)
 else if st.isB wAcc then (.mk 4 0 [],st.next)
 else if st.isB [40] then ((rec 0 st.next).1,(rec 0 st.next).2.must E [41])
 else if st.isB wIf then prIf E rec st.next
 else (Ex.zero,st.fails E)
def prStep (E:Int) (rec:Nat → PSt → Ex × PSt) (lv:Nat) (st:PSt):Ex × PSt :=
 if lv = 5 then prUnary rec st else if lv = 6 then prOne E rec st
 else rowL (rec (lv + 1)) (lvSigns lv) (lvMost lv) (rec (lv + 1) st).1 (rec (lv + 1) st).2
def pr (E:Int):Nat → Nat → PSt → Ex × PSt
 | 0,_,st => (Ex.zero,st)
 | f + 1,lv,st => prStep E (pr E f) lv st
theorem rowL_len {one:PSt → Ex × PSt} (h:∀ st,(one st).2.l.length ≤ st.l.length) (sg:List (List UInt8 × Int)):∀ c x st,(rowL one sg c x st).2.l.length ≤ st.l.length
 | 0,x,st => Nat.le_refl _
 | c + 1,x,st => by
  simp only [rowL]
  split
  ·exact Nat.le_refl _
  ·split
   ·exact Nat.le_refl _
   ·exact Nat.le_trans (rowL_len h sg c _ _) (Nat.le_trans (h _) (PSt.next_le st))
theorem prStep_len (E:Int) {rec:Nat → PSt → Ex × PSt} (h:∀ lv st,(rec lv st).2.l.length ≤ st.l.length) (lv:Nat) (st:PSt):(prStep E rec lv st).2.l.length ≤ st.l.length:=by
 have hn:=PSt.next_le st
 unfold prStep
 split
 ·unfold prUnary
  repeat' split
  all_goals first | exact h _ _ | exact Nat.le_trans (h _ _) hn
 ·split
  ·unfold prOne
   repeat' split
   all_goals first
    | exact Nat.le_refl _
    | exact hn
    | exact Nat.le_trans (PSt.must_le _ _ _) (Nat.le_trans (h _ _) hn)
    | (show (st.fails E).l.length ≤ _; rw [PSt.fails_l]; exact Nat.le_refl _)
    | (unfold prIf; exact Nat.le_trans (h _ _) (Nat.le_trans (PSt.must_le _ _ _) (Nat.le_trans (h _ _) (Nat.le_trans (PSt.must_le _ _ _) (Nat.le_trans (h _ _) hn)))))
  ·exact Nat.le_trans (rowL_len (fun st => h _ st) _ _ _ _) (h _ _)
theorem pr_len (E:Int):∀ f lv st,(pr E f lv st).2.l.length ≤ st.l.length
 | 0,_,_ => Nat.le_refl _
 | f + 1,lv,st => prStep_len E (pr_len E f) lv st
theorem rowL_congr {one one':PSt → Ex × PSt} (hl:∀ st,(one st).2.l.length ≤ st.l.length) (sg:List (List UInt8 × Int)) (n:Nat) (h:∀ st,st.l.length < n → one st = one' st) :
  ∀ c x st,st.l.length ≤ n → rowL one sg c x st = rowL one' sg c x st
 | 0,_,_,_ => rfl
 | c + 1,x,st,hs => by
  simp only [rowL]
  cases hb:st.bad.isSome
  ·cases hg:signOf st sg with
   | none => rfl
   | some o =>
    have h1:=signOf_lt hg
    have h2:=hl st.next
    simp only [Bool.false_eq_true,if_false]
    rw [← h st.next (by omega)]
    exact rowL_congr hl sg n h c _ _ (by omega)
  ·rfl
theorem prStep_congr (E:Int) {rec rec':Nat → PSt → Ex × PSt} (hl:∀ lv st,(rec lv st).2.l.length ≤ st.l.length) (lv:Nat) (hlv:lv ≤ 6) (st:PSt)
  (h:∀ lv' st',lv' ≤ 6 → st'.need lv' < st.need lv → rec lv' st' = rec' lv' st'):prStep E rec lv st = prStep E rec' lv st:=by
 unfold PSt.need at h
 unfold prStep
 by_cases h5:lv = 5
 ·subst h5
  simp only [if_true]
  unfold prUnary
  by_cases h1:st.isB [45] = true
  ·have:=PSt.next_lt h1
   rw [if_pos h1,if_pos h1,h 5 st.next (by omega) (by omega)]
  ·rw [if_neg h1,if_neg h1]
   by_cases h2:st.isB [33] = true
   ·have:=PSt.next_lt h2
    rw [if_pos h2,if_pos h2,h 5 st.next (by omega) (by omega)]
   ·rw [if_neg h2,if_neg h2,h 6 st (by omega) (by omega)]
 ·rw [if_neg h5,if_neg h5]
  by_cases h6:lv = 6
  ·subst h6
   simp only [if_true]
   unfold prOne
   by_cases h1:st.isB [40] = true
   ·have:=PSt.next_lt h1
    rw [h 0 st.next (by omega) (by omega)]
    by_cases h2:st.isB wIf = true
    ·simp only [if_pos h1]
    ·simp only [if_pos h1]
   ·simp only [if_neg h1]
    by_cases h2:st.isB wIf = true
    ·have hn:=PSt.next_lt h2
     simp only [if_pos h2]
     unfold prIf
     have q1:=h 0 st.next (by omega) (by omega)
     have l1:=hl 0 st.next
     have m1:=PSt.must_le E (rec 0 st.next).2 wThen
     have q2:=h 0 ((rec 0 st.next).2.must E wThen) (by omega) (by omega)
     have l2:=hl 0 ((rec 0 st.next).2.must E wThen)
     have m2:=PSt.must_le E (rec 0 ((rec 0 st.next).2.must E wThen)).2 wElse
     have q3:=h 0 ((rec 0 ((rec 0 st.next).2.must E wThen)).2.must E wElse) (by omega) (by omega)
     rw [q3,q2,q1]
    ·simp only [if_neg h2]
  ·rw [if_neg h6,if_neg h6,h (lv + 1) st (by omega) (by omega)]
   refine rowL_congr (fun st => ?_) _ st.l.length (fun st' hs' => h _ _ (by omega) (by omega)) _ _ _ ?_
   ·exact hl _ _
   ·rw [← h (lv + 1) st (by omega) (by omega)]; exact hl _ _
theorem pr_fuel (E:Int):∀ f g lv st,lv ≤ 6 → st.need lv ≤ f → st.need lv ≤ g → pr E f lv st = pr E g lv st
 | 0,_,lv,st,hlv,h,_ => by unfold PSt.need at h; omega
 | f + 1,0,lv,st,hlv,_,h => by unfold PSt.need at h; omega
 | f + 1,g + 1,lv,st,hlv,h,h' => prStep_congr E (pr_len E f) lv hlv st fun lv' st' hlv' hn => pr_fuel E f g lv' st' hlv' (by omega) (by omega)
def prF (E:Int) (lv:Nat) (st:PSt):Ex × PSt:=pr E (st.need lv) lv st
theorem prF_len (E:Int) (lv:Nat) (st:PSt):(prF E lv st).2.l.length ≤ st.l.length:=pr_len E _ lv st
theorem prF_of (E:Int) (f lv:Nat) (st:PSt) (hlv:lv ≤ 6) (h:st.need lv ≤ f):pr E f lv st = prF E lv st:=pr_fuel E _ _ lv st hlv h (Nat.le_refl _)
theorem prF_eq (E:Int) (lv:Nat) (st:PSt) (hlv:lv ≤ 6):prF E lv st = prStep E (prF E) lv st:=by
 obtain ⟨f,hf⟩:∃ f,st.need lv = f + 1:=⟨st.need lv - 1,by unfold PSt.need; omega⟩
 unfold prF
 rw [hf]
 exact prStep_congr E (pr_len E f) lv hlv st fun lv' st' hlv' hn => by rw [prF_of E f lv' st' hlv' (by omega)]; rfl
theorem prF_row (E:Int) (lv:Nat) (st:PSt) (hlv:lv < 5):prF E lv st = rowL (prF E (lv + 1)) (lvSigns lv) (lvMost lv) (prF E (lv + 1) st).1 (prF E (lv + 1) st).2:=by
 rw [prF_eq E lv st (by omega)]
 unfold prStep
 rw [if_neg (by omega),if_neg (by omega)]
theorem prF_unary (E:Int) (st:PSt):prF E 5 st = prUnary (prF E) st:=by rw [prF_eq E 5 st (by omega)]; rfl
theorem prF_one (E:Int) (st:PSt):prF E 6 st = prOne E (prF E) st:=by rw [prF_eq E 6 st (by omega)]; rfl
def deepN:Nat → Ex → Nat
 | 0,_ => 1
 | k + 1,x => x.args.foldl (fun n a => max n (deepN k a)) 0 + 1
theorem deepN_le:∀ (k:Nat) (x:Ex),deepN k x ≤ k + 1
 | 0,_ => by simp [deepN]
 | k + 1,x => by
  simp only [deepN]
  have:∀ (l:List Ex) (n:Nat),n ≤ k + 1 → l.foldl (fun n a => max n (deepN k a)) n ≤ k + 1:=by
   intro l
   induction l with
   | nil => intro n h; simpa using h
   | cons a l ih => intro n h; exact ih _ (by have:=deepN_le k a; show max n (deepN k a) ≤ k + 1; omega)
  have:=this x.args 0 (by omega)
  omega
def parseEnd (E:Int) (x:Ex) (st:PSt):Ex × Int × Int :=
 match (if st.l = [] then st else st.fails E).bad with
 | some a => (Ex.zero,a,80)
 | none => if 16 < deepN 16 x then (Ex.zero,0,81) else (x,0,0)
def parse (s:ByteArray):Ex × Int × Int :=
 if (toks s).2.2 ≠ 0 then (Ex.zero,(toks s).2.1,(toks s).2.2)
 else parseEnd (runes s).length (prF (runes s).length 0 ⟨(toks s).1,none⟩).1 (prF (runes s).length 0 ⟨(toks s).1,none⟩).2
def PSt.tok (E:Int) (st:PSt):Tok:=match st.l with | [] => ⟨0,{ data:=#[] },0,E⟩ | t :: _ => t
theorem PSt.isB_tok (E:Int) (st:PSt) (s:List UInt8):st.isB s = (st.bad.isNone && (decide ((st.tok E).kind ≠ 0) && (decide ((st.tok E).kind ≠ 2) && decide ((st.tok E).text.toList = s)))):=by
 obtain ⟨l,b⟩:=st
 cases l with
 | nil => cases b <;> simp [PSt.isB,PSt.tok]
 | cons t l => rfl
theorem PSt.here_tok (E:Int) (st:PSt):st.here E = (st.tok E).at_:=by
 obtain ⟨l,b⟩:=st
 cases l <;> rfl
structure RdAt (w:World) (br:Nat) (E:Int) (st:PSt):Prop where
 ex:∃ v a,Blk w br 345 #[v, .int .i64 E, .bool st.bad.isSome, .int .i64 a] ∧ (∀ b,st.bad = some b → a = b) ∧ Sl w br 4 v st.l.length (toksCells st.l)
theorem RdAt.keep {w w':World} {br:Nat} {E:Int} {st:PSt} (h:RdAt w br E st) (hb:Below w.heap.size w w'):RdAt w' br E st:=by
 obtain ⟨v,a,h1,h2,h3⟩:=h.ex
 exact ⟨v,a,h1.below hb h1.lt,h2,h3.below (hb.mono (Nat.le_of_lt h1.lt))⟩
theorem RdAt.fr {S:Nat → Prop} {w w':World} {br:Nat} {E:Int} {st:PSt} (h:RdAt w br E st) (hf:Fr S w w') (hs:∀ k,k ≤ br → ¬ S k):RdAt w' br E st:=by
 obtain ⟨v,a,h1,h2,h3⟩:=h.ex
 exact ⟨v,a,h1.fr hf (hs br (Nat.le_refl _)),h2,h3.below (hf.below (Nat.le_of_lt h1.lt) (fun k hk => hs k (Nat.le_of_lt hk)))⟩
theorem RdAt.lt {w:World} {br:Nat} {E:Int} {st:PSt} (h:RdAt w br E st):br < w.heap.size:=by
 obtain ⟨v,a,h1,h2,h3⟩:=h.ex
 exact h1.lt
set_option maxHeartbeats 400000 in
theorem next_c (br:Nat) (E:Int) (st:PSt) (w:World) (h:RdAt w br E st) :
  Calls Tryz.prog 288 #[.pointer (some ⟨br,0,none⟩)] w fun e w' => e = .returned (st.tok E).agg ∧ Below w.heap.size w w':=by
 obtain ⟨v,a,hb,ha,hs⟩:=h.ex
 have c0:=hb.cell 0
 have c1:=hb.cell 1
 have hlt:=hb.lt
 obtain ⟨l,bad⟩:=st
 cases l with
 | nil =>
  obtain ⟨_,a1,cap,rfl,_,_,_⟩:=hs
  go_enter Tryz.func288,Tryz.ntmps288
  go_wp2_with fail
  have h0:=Blk.new w #[.int .u8 0, .string { data:=#[] }, .int .i64 0, .int .i64 E] 367
  refine bodyPost_ret (v:=Tok.agg ⟨0,{ data:=#[] },0,E⟩) (results_cell_row rfl _ _ w.heap.size 367 _ (0,0) _ rfl h0 Tryz.underlying367 rfl ?_) rfl ⟨rfl, ?_⟩
  ·as_aux_lemma => kernel_rfl
  ·exact (Below.refl _ _).alloc (Nat.le_refl _) _
 | cons t l =>
  simp only [List.length_cons] at hs
  obtain ⟨b,off,cap,rfl,_,d0,d1,d2,d3⟩:=hs.tok 0 (by omega)
  simp only [Nat.zero_mul,Nat.add_zero,List.getElem_cons_zero] at d0 d1 d2 d3
  have hlb:=World.block_lt_of_cell? _ _ d0
  have hl0:0 < l.length + 1:=by omega
  have hl1:(((l.length + 1:Nat):Int) == 0) = false:=by rw [beq_eq_false_iff_ne]; omega
  generalize l.length + 1 = n at *
  go_enter Tryz.func288,Tryz.ntmps288
  go_wp2_with fail
  have h0:=Blk.new w #[.int .u8 t.kind, .string t.text, .int .i64 t.n, .int .i64 t.at_] 367
  refine bodyPost_ret (v:=Tok.agg t) (results_cell_row rfl _ _ w.heap.size 367 _ (0,0) _ rfl h0 Tryz.underlying367 rfl ?_) rfl ⟨rfl, ?_⟩
  ·as_aux_lemma => kernel_rfl
  ·exact (Below.refl _ _).alloc (Nat.le_refl _) _
theorem isB_cases (E:Int) (st:PSt) (s:ByteArray):(st.bad.isSome = true ∧ st.isB s.toList = false) ∨ (st.bad.isSome = false ∧ ((st.tok E).kind == 0) = true ∧ st.isB s.toList = false) ∨
  (st.bad.isSome = false ∧ ((st.tok E).kind == 0) = false ∧ ((st.tok E).kind == 2) = true ∧ st.isB s.toList = false) ∨
  (st.bad.isSome = false ∧ ((st.tok E).kind == 0) = false ∧ ((st.tok E).kind == 2) = false ∧ ((st.tok E).text.toList == s.toList) = false ∧ st.isB s.toList = false) ∨
  (st.bad.isSome = false ∧ ((st.tok E).kind == 0) = false ∧ ((st.tok E).kind == 2) = false ∧ (st.tok E).text = s ∧ st.isB s.toList = true):=by
 rw [PSt.isB_tok E st s.toList]
 cases hb:st.bad.isSome
 ·have hb':st.bad.isNone = true:=by cases h:st.bad <;> simp_all
  by_cases h0:(st.tok E).kind = 0
  ·exact .inr (.inl ⟨rfl,by simpa using h0,by simp [h0]⟩)
  ·by_cases h2:(st.tok E).kind = 2
   ·exact .inr (.inr (.inl ⟨rfl,by simpa using h0,by simpa using h2,by simp [h2]⟩))
   ·by_cases hs:(st.tok E).text = s
    ·exact .inr (.inr (.inr (.inr ⟨rfl,by simpa using h0,by simpa using h2,hs,by simp [hb',h0,h2,hs]⟩)))
    ·have hs' : ¬ (st.tok E).text.toList = s.toList:=fun h => hs ((bytes_inj _ _).1 h)
     exact .inr (.inr (.inr (.inl ⟨rfl,by simpa using h0,by simpa using h2,by simpa using hs',by simp [hs']⟩)))
 ·have hb':st.bad.isNone = false:=by cases h:st.bad <;> simp_all
  exact .inl ⟨rfl,by simp [hb']⟩
set_option maxHeartbeats 1000000 in
theorem is_false (br:Nat) (E:Int) (st:PSt) (s:ByteArray) (w:World) (h:RdAt w br E st) (hf:st.isB s.toList = false) :
  Calls Tryz.prog 310 #[.pointer (some ⟨br,0,none⟩), .string s] w fun e w' => e = .returned (.bool false) ∧ Below w.heap.size w w':=by
 have hc:=isB_cases E st s
 obtain ⟨v,a,hb,ha,hs⟩:=h.ex
 have H:=Lib.hid h
 clear hs ha
 have hlt:=hb.lt
 generalize htk:st.tok E = tk at *
 obtain ⟨k,tx,n,ta⟩:=tk
 simp only at hc
 have HTK:=Lib.hid htk
 have HF:=Lib.hid hf
 generalize st.bad.isSome = bad at *
 clear htk hf h
 have hB:=(Below.refl w.heap.size w)
 rcases hc with ⟨h1,_⟩ | ⟨h1,h2,_⟩ | ⟨h1,h2,h3,_⟩ | ⟨h1,h2,h3,h4,_⟩ | ⟨h1,h2,h3,h4,h5⟩
 ·subst h1
  go_enter Tryz.func310,Tryz.ntmps310
  go_wp2_with (go_at_call 288; refine (next_c br E st _ H.out).mono ?_; rintro e w1 ⟨rfl,hb1⟩; rw [HTK.out]; dsimp only [Tok.agg]; have hb2:=hb.below hb1 hlt; have c2:=hb2.cell 2; have hlt2:=hb2.lt)
  go_ret
  exact ⟨rfl,hb1.alloc hb1.size _⟩
 ·subst h1
  go_enter Tryz.func310,Tryz.ntmps310
  go_wp2_with (go_at_call 288; refine (next_c br E st _ H.out).mono ?_; rintro e w1 ⟨rfl,hb1⟩; rw [HTK.out]; dsimp only [Tok.agg]; have hb2:=hb.below hb1 hlt; have c2:=hb2.cell 2; have hlt2:=hb2.lt)
  go_ret
  exact ⟨rfl,hb1.alloc hb1.size _⟩
 ·subst h1
  go_enter Tryz.func310,Tryz.ntmps310
  go_wp2_with (go_at_call 288; refine (next_c br E st _ H.out).mono ?_; rintro e w1 ⟨rfl,hb1⟩; rw [HTK.out]; dsimp only [Tok.agg]; have hb2:=hb.below hb1 hlt; have c2:=hb2.cell 2; have hlt2:=hb2.lt)
  go_ret
  exact ⟨rfl,hb1.alloc hb1.size _⟩
 ·subst h1
  go_enter Tryz.func310,Tryz.ntmps310
  go_wp2_with (go_at_call 288; refine (next_c br E st _ H.out).mono ?_; rintro e w1 ⟨rfl,hb1⟩; rw [HTK.out]; dsimp only [Tok.agg]; have hb2:=hb.below hb1 hlt; have c2:=hb2.cell 2; have hlt2:=hb2.lt)
  go_ret
  exact ⟨rfl,hb1.alloc hb1.size _⟩
 ·exact absurd h5 (by rw [HF.out]; decide)
theorem RdAt.next {w:World} {br:Nat} {E:Int} {t:Tok} {l:List Tok} {bad:Option Int} {b off cap:Nat} {a:Int} (hb:Blk w br 345 #[.slice (some ⟨b,off,none⟩) (l.length + 1) cap, .int .i64 E, .bool bad.isSome, .int .i64 a])
  (ha:∀ b,bad = some b → a = b) (hs:Sl w br 4 (.slice (some ⟨b,off,none⟩) (l.length + 1) cap) (l.length + 1) (toksCells (t :: l))) {A:Option Addr} (hA:0 < l.length → A = some ⟨b,off + 4,none⟩) :
  RdAt (w.setCell ⟨br,0,none⟩ (.slice A l.length (cap - 1))) br E ⟨l,bad⟩:=by
 have hlt:=hb.lt
 refine ⟨_,a,hb.set 0 _,ha,(hs.rest hA).below ?_⟩
 exact (Below.refl _ _).setCell (p:=⟨br,0,none⟩) (Nat.le_refl _) _
set_option maxHeartbeats 1000000 in
theorem is_true (br:Nat) (E:Int) (st:PSt) (s:ByteArray) (w:World) (h:RdAt w br E st) (hf:st.isB s.toList = true) :
  Calls Tryz.prog 310 #[.pointer (some ⟨br,0,none⟩), .string s] w fun e w' => e = .returned (.bool true) ∧ RdAt w' br E st.next ∧ Fr (· = br) w w':=by
 have hc:=isB_cases E st s
 obtain ⟨v,a,hb,ha,hs⟩:=h.ex
 have H:=Lib.hid h
 have hlt:=hb.lt
 obtain ⟨l,bad⟩:=st
 cases l with
 | nil => cases bad <;> simp [PSt.isB] at hf
 | cons t l =>
  simp only [List.length_cons] at hs
  obtain ⟨b,off,cap,rfl,_,d0,_,_,_⟩:=hs.tok 0 (by omega)
  have hlb:=World.block_lt_of_cell? _ _ d0
  have hcap:l.length + 1 ≤ cap ∧ cap ≤ maxLen:=by
   obtain ⟨_,a',cap',hv,h2,h3,_⟩:=id hs
   simp only [Value.slice.injEq] at hv
   omega
  obtain ⟨hc1,hc2⟩:=hcap
  unfold maxLen at hc2
  have htk:PSt.tok E ⟨t :: l,bad⟩ = t:=rfl
  have hnx:PSt.next ⟨t :: l,bad⟩ = ⟨l,bad⟩:=rfl
  rw [hnx]
  rw [htk] at hc
  have HS:=Lib.hid hs
  have HA:=Lib.hid ha
  have HTK:=Lib.hid htk
  obtain ⟨k,tx,n,ta⟩:=t
  simp only at hc hb
  rcases hc with ⟨_,h6⟩ | ⟨_,_,h6⟩ | ⟨_,_,_,h6⟩ | ⟨_,_,_,_,h6⟩ | ⟨h1,h2,h3,h4,_⟩
  ·rw [h6] at hf; exact absurd hf (by decide)
  ·rw [h6] at hf; exact absurd hf (by decide)
  ·rw [h6] at hf; exact absurd hf (by decide)
  ·rw [h6] at hf; exact absurd hf (by decide)
  ·subst h4
   clear d0 hs ha htk hnx h hf
   obtain rfl:bad = none:=by cases bad <;> simp_all
   have hq:(tx.toList == tx.toList) = true:=by simp
   simp only [Option.isSome_none] at hb
   generalize hm:l.length = m at *
   have HM:=Lib.hid hm
   clear hm
   by_cases h1c:cap = 1
   all_goals
    go_enter Tryz.func310,Tryz.ntmps310
    go_wp2_with (go_at_call 288; refine (next_c br E _ _ H.out).mono ?_; rintro e w1 ⟨rfl,hb1⟩; rw [HTK.out]; dsimp only [Tok.agg]; have hb2:=hb.below hb1 hlt; have c2:=hb2.cell 2; have c0:=hb2.cell 0; have f0:=hb2.free 0; have hlt2:=hb2.lt)
    go_ret
    refine ⟨rfl, ?_, ?_⟩
    rotate_left
    ·exact ((Fr.of_new (S:=fun x => x = br) hb1).setCell (p:=⟨br,0,none⟩) (.inl rfl) _).alloc _
   ·obtain rfl:=HM.out
    have hN:=RdAt.next (A:=some ⟨b,off,none⟩) (bad:=none) hb2 HA.out (HS.out.below (hb1.mono (Nat.le_of_lt hlt))) (fun h => by omega)
    rw [h1c] at hN
    exact hN.keep ((Below.refl _ _).alloc (Nat.le_refl _) _)
   ·obtain rfl:=HM.out
    have hN:=RdAt.next (A:=some ⟨b,off + 4,none⟩) (bad:=none) hb2 HA.out (HS.out.below (hb1.mono (Nat.le_of_lt hlt))) (fun _ => rfl)
    exact hN.keep ((Below.refl _ _).alloc (Nat.le_refl _) _)
def PSt.took (st:PSt) (s:List UInt8):PSt:=if st.isB s then st.next else st
theorem is_c (br:Nat) (E:Int) (st:PSt) (s:ByteArray) (w:World) (h:RdAt w br E st) :
  Calls Tryz.prog 310 #[.pointer (some ⟨br,0,none⟩), .string s] w fun e w' => e = .returned (.bool (st.isB s.toList)) ∧ RdAt w' br E (st.took s.toList) ∧ Fr (· = br) w w':=by
 unfold PSt.took
 cases hb:st.isB s.toList
 ·exact (is_false br E st s w h hb).mono fun e w' ⟨he,hw⟩ => ⟨he,h.keep hw,Fr.of_new hw⟩
 ·exact is_true br E st s w h hb
set_option maxHeartbeats 1000000 in
theorem fails_c (br:Nat) (E:Int) (st:PSt) (w:World) (h:RdAt w br E st) :
  Calls Tryz.prog 258 #[.pointer (some ⟨br,0,none⟩)] w fun e w' => e = .returned (.agg #[.int .u8 0, .int .i64 0, .slice none 0 0]) ∧ RdAt w' br E (st.fails E) ∧ Fr (· = br) w w':=by
 obtain ⟨v,a,hb,ha,hs⟩:=h.ex
 have H:=Lib.hid h
 have hlt:=hb.lt
 have HS:=Lib.hid hs
 have hbN:=(hb.alloc (.cells #[.int .u8 0, .int .i64 0, .slice none 0 0] 179))
 have c2:=hb.cell 2
 obtain ⟨l,bad⟩:=st
 cases bad with
 | none =>
  have hE:Hid (PSt.fails E ⟨l,none⟩ = ⟨l,some (PSt.here E ⟨l,none⟩)⟩):=rfl
  have HN:=Lib.hid (PSt.here_tok E ⟨l,none⟩)
  generalize htk:PSt.tok E ⟨l,none⟩ = tk at *
  obtain ⟨k,tx,n,ta⟩:=tk
  have HTK:=Lib.hid htk
  clear htk hs h
  simp only [Option.isSome_none] at hb hbN c2
  have hfd:∀ w:World,(Instr.field 367 (.agg #[.int .u8 k, .string tx, .int .i64 n, .int .i64 ta]) 3).run Tryz.prog w = .ok (.int .i64 ta) w:=fun _ => by kernel_rfl
  go_enter Tryz.func258,Tryz.ntmps258
  go_upto_region 3 with (go_at_call 288; refine (next_c br E _ _ (H.out.keep ((Below.refl _ _).alloc (Nat.le_refl _) _))).mono ?_; rintro e w1 ⟨rfl,hb1⟩; rw [HTK.out]; dsimp only [Tok.agg]; have hb2:=hbN.below hb1 (by simp; omega); have d2:=hb2.cell 2; have d3:=hb2.cell 3; have f2:=hb2.free 2; have f3:=hb2.free 3; have hlt2:=hb2.lt; have h0:=(Blk.new w #[.int .u8 0, .int .i64 0, .slice none 0 0] 179).below hb1 (by simp))
  have hR:RdAt ((w1.setCell ⟨br,2,none⟩ (.bool true)).setCell ⟨br,3,none⟩ (.int .i64 ta)) br E (PSt.fails E ⟨l,none⟩):=by
   refine ⟨v,ta,(hb2.set 2 _).set 3 _, ?_, ?_⟩
   ·rw [hE.out,HN.out]; intro b h; cases h; rfl
   ·rw [hE.out]
    exact HS.out.below (((((Below.refl br w).alloc (Nat.le_of_lt hlt) _).trans (hb1.mono (by simp; omega))).setCell (Nat.le_refl _) _).setCell (Nat.le_refl _) _)
  have hF:Fr (· = br) w ((w1.setCell ⟨br,2,none⟩ (.bool true)).setCell ⟨br,3,none⟩ (.int .i64 ta)):=by
   refine ((((Fr.refl (fun x => x = br) w).alloc _).trans (Fr.of_new hb1)).setCell (p:=⟨br,2,none⟩) (.inl rfl) _).setCell (p:=⟨br,3,none⟩) (.inl rfl) _
  have h1:Blk ((w1.setCell ⟨br,2,none⟩ (.bool true)).setCell ⟨br,3,none⟩ (.int .i64 ta)) w.heap.size 179 #[.int .u8 0, .int .i64 0, .slice none 0 0] :=
   (h0.other (p:=⟨br,2,none⟩) (by simp; omega) _).other (p:=⟨br,3,none⟩) (by simp; omega) _
  generalize World.setCell (World.setCell w1 _ _) _ _ = W at *
  have g0:=h1.cell 0
  have g1:=h1.cell 1
  have g2:=h1.cell 2
  have k0:=h1.free 0
  have k1:=h1.free 1
  have k2:=h1.free 2
  clear d2 d3 f2 f3 hb2 hb1 c2 hbN hb h0
  go_wp2_with fail
  refine bodyPost_ret (v := .agg #[.int .u8 0, .int .i64 0, .slice none 0 0]) (results_cell_row rfl _ _ w.heap.size 179 _ (0,0) _ rfl (((h1.set 0 _).set 1 _).set 2 _) Tryz.underlying179 rfl ?_) rfl ⟨rfl, ?_, ?_⟩
  ·as_aux_lemma => kernel_rfl
  ·exact hR.fr ((((Fr.refl (fun x => x = w.heap.size) W).setCell (p:=⟨w.heap.size,0,none⟩) (.inl rfl) _).setCell (p:=⟨w.heap.size,1,none⟩) (.inl rfl) _).setCell (p:=⟨w.heap.size,2,none⟩) (.inl rfl) _) (fun k hk => by omega)
  ·exact ((hF.setCell (p:=⟨w.heap.size,0,none⟩) (.inr (Nat.le_refl _)) _).setCell (p:=⟨w.heap.size,1,none⟩) (.inr (Nat.le_refl _)) _).setCell (p:=⟨w.heap.size,2,none⟩) (.inr (Nat.le_refl _)) _
 | some b =>
  have hE:PSt.fails E ⟨l,some b⟩ = ⟨l,some b⟩:=rfl
  rw [hE]
  clear hs h
  simp only [Option.isSome_some] at hb hbN c2
  go_enter Tryz.func258,Tryz.ntmps258
  go_wp2_with fail
  have h0:=Blk.new w #[.int .u8 0, .int .i64 0, .slice none 0 0] 179
  refine bodyPost_ret (v := .agg #[.int .u8 0, .int .i64 0, .slice none 0 0]) (results_cell_row rfl _ _ w.heap.size 179 _ (0,0) _ rfl h0 Tryz.underlying179 rfl ?_) rfl ⟨rfl,H.out.keep ((Below.refl _ _).alloc (Nat.le_refl _) _),(Fr.refl _ _).alloc _⟩
  as_aux_lemma => kernel_rfl
set_option maxHeartbeats 400000 in
theorem must_c (br:Nat) (E:Int) (st:PSt) (s:ByteArray) (w:World) (h:RdAt w br E st) :
  Calls Tryz.prog 354 #[.pointer (some ⟨br,0,none⟩), .string s] w fun e w' => e = .returned (.tuple #[]) ∧ RdAt w' br E (st.must E s.toList) ∧ Fr (· = br) w w':=by
 unfold PSt.must
 cases hb:st.isB s.toList
 all_goals
  have H:=Lib.hid h
  have HB:=Lib.hid hb
  clear h hb
  go_enter Tryz.func354,Tryz.ntmps354
  go_wp2_with (first
   | (go_at_call 310; refine (is_c br E st s _ H.out).mono ?_; rintro e w1 ⟨rfl,h1,hf1⟩; rw [PSt.took] at h1; rw [HB.out] at h1 ⊢; have H1:=Lib.hid h1; clear h1)
   | (go_at_call 258; refine (fails_c br E st _ H1.out).mono ?_; rintro e w2 ⟨rfl,h2,hf2⟩))
  go_end0
 ·exact ⟨rfl,h2,hf1.trans hf2⟩
 ·exact ⟨rfl,H1.out,hf1⟩
inductive ArgsIn (w:World) (P:Nat → Prop):List Ex → Value → Prop
 | nil (a:Option Addr) (cap:Nat) (hm:cap ≤ maxLen):ArgsIn w P [] (.slice a 0 cap)
 | cons (l:List Ex) (b off cap:Nat) (sv:Nat → Value) (hl:0 < l.length) (hb:P b) (hcap:l.length ≤ cap) (hm:cap ≤ maxLen)
   (h0:∀ j (h:j < l.length),w.cell? ⟨b,off + j * 3,none⟩ = some (.int .u8 (l[j]'h).op)) (h1:∀ j (h:j < l.length),w.cell? ⟨b,off + j * 3 + 1,none⟩ = some (.int .i64 (l[j]'h).n))
   (h2:∀ j (h:j < l.length),w.cell? ⟨b,off + j * 3 + 2,none⟩ = some (sv j)) (hs:∀ j (h:j < l.length),ArgsIn w P (l[j]'h).args (sv j)) :
   ArgsIn w P l (.slice (some ⟨b,off,none⟩) l.length cap)
namespace ArgsIn
variable {w w':World} {P:Nat → Prop} {l:List Ex} {v:Value}
theorem keep (h:ArgsIn w P l v) {Q:Nat → Prop} (hPQ:∀ b,P b → Q b) (hk:∀ b,P b → w'.heap[b]? = w.heap[b]?):ArgsIn w' Q l v:=by
 have hc:∀ b off,P b → w'.cell? ⟨b,off,none⟩ = w.cell? ⟨b,off,none⟩:=fun b off hb => World.cell?_of_block (hk b hb)
 induction h with
 | nil a cap hm => exact .nil a cap hm
 | cons l b off cap sv hl hb hcap hm h0 h1 h2 _ ih =>
  exact .cons l b off cap sv hl (hPQ b hb) hcap hm (fun j h => (hc _ _ hb).trans (h0 j h)) (fun j h => (hc _ _ hb).trans (h1 j h)) (fun j h => (hc _ _ hb).trans (h2 j h)) ih
theorem mono (h:ArgsIn w P l v) {Q:Nat → Prop} (hPQ:∀ b,P b → Q b):ArgsIn w Q l v:=h.keep hPQ fun _ _ => rfl
theorem toAt (h:ArgsIn w P l v) {B:Nat} (hP:∀ b,P b → b < B):ArgsAt w B l v:=by
 induction h with
 | nil a cap hm => exact .nil a cap hm
 | cons l b off cap sv hl hb hcap hm h0 h1 h2 _ ih => exact .cons l b off cap sv hl (hP b hb) hcap hm h0 h1 h2 ih
theorem fr (h:ArgsIn w P l v) {S Q:Nat → Prop} (hf:Fr S w w') (hP:∀ b,P b → b < w.heap.size ∧ ¬ S b) (hPQ:∀ b,P b → Q b):ArgsIn w' Q l v :=
 h.keep hPQ fun b hb => hf.block b (hP b hb).1 (hP b hb).2
theorem slice (h:ArgsIn w P l v):∃ a n cap,v = .slice a n cap:=by
 cases h with
 | nil a cap hm => exact ⟨_,_,_,rfl⟩
 | cons l b off cap sv hl hb hcap hm h0 h1 h2 hs => exact ⟨_,_,_,rfl⟩
theorem of_block {b:Nat} {t:TypeId} {cs:Array Value} (hb:Blk w b t cs) (hP:P b) (l:List Ex) (sv:Nat → Value)
  (hc:∀ j (h:j < l.length),cs[j * 3]? = some (.int .u8 (l[j]'h).op) ∧ cs[j * 3 + 1]? = some (.int .i64 (l[j]'h).n) ∧ cs[j * 3 + 2]? = some (sv j)) (hs:∀ j (h:j < l.length),ArgsIn w P (l[j]'h).args (sv j)) (hl:l.length ≤ maxLen) :
  ArgsIn w P l (.slice (some ⟨b,0,none⟩) l.length l.length):=by
 by_cases h0:l.length = 0
 ·have:l = []:=List.length_eq_zero_iff.1 h0
  subst this
  exact .nil _ _ (Nat.zero_le _)
 ·exact .cons l b 0 l.length sv (by omega) hP (Nat.le_refl _) hl (fun j h => by rw [Nat.zero_add,hb.cell]; exact (hc j h).1) (fun j h => by rw [Nat.zero_add,hb.cell]; exact (hc j h).2.1) (fun j h => by rw [Nat.zero_add,hb.cell]; exact (hc j h).2.2) hs
theorem one {b:Nat} {t:TypeId} {x:Ex} {sv:Value} (hb:Blk w b t #[.int .u8 x.op, .int .i64 x.n,sv]) (hP:P b) (hs:ArgsIn w P x.args sv):ArgsIn w P [x] (.slice (some ⟨b,0,none⟩) 1 1) :=
 of_block hb hP [x] (fun _ => sv) (fun j hj => by match j,hj with | 0,_ => exact ⟨rfl,rfl,rfl⟩) (fun j hj => by match j,hj with | 0,_ => exact hs) (show (1:Nat) ≤ maxLen by decide)
theorem two {b:Nat} {t:TypeId} {x y:Ex} {sv su:Value} (hb:Blk w b t #[.int .u8 x.op, .int .i64 x.n,sv, .int .u8 y.op, .int .i64 y.n,su]) (hP:P b) (hs:ArgsIn w P x.args sv) (hu:ArgsIn w P y.args su):ArgsIn w P [x,y] (.slice (some ⟨b,0,none⟩) 2 2) :=
 of_block hb hP [x,y] (fun j => if j = 0 then sv else su) (fun j hj => by match j,hj with | 0,_ => exact ⟨rfl,rfl,rfl⟩ | 1,_ => exact ⟨rfl,rfl,rfl⟩) (fun j hj => by match j,hj with | 0,_ => exact hs | 1,_ => exact hu) (show (2:Nat) ≤ maxLen by decide)
theorem three {b:Nat} {t:TypeId} {x y z:Ex} {sv su st:Value} (hb:Blk w b t #[.int .u8 x.op, .int .i64 x.n,sv, .int .u8 y.op, .int .i64 y.n,su, .int .u8 z.op, .int .i64 z.n,st]) (hP:P b) (hs:ArgsIn w P x.args sv) (hu:ArgsIn w P y.args su)
  (ht:ArgsIn w P z.args st):ArgsIn w P [x,y,z] (.slice (some ⟨b,0,none⟩) 3 3) :=
 of_block hb hP [x,y,z] (fun j => if j = 0 then sv else if j = 1 then su else st) (fun j hj => by match j,hj with | 0,_ => exact ⟨rfl,rfl,rfl⟩ | 1,_ => exact ⟨rfl,rfl,rfl⟩ | 2,_ => exact ⟨rfl,rfl,rfl⟩)
  (fun j hj => by match j,hj with | 0,_ => exact hs | 1,_ => exact hu | 2,_ => exact ht) (show (3:Nat) ≤ maxLen by decide)
end ArgsIn
def PrPost (w:World) (R:World → PSt → Prop) (br:Nat) (p:Ex × PSt) (e:Ending) (w':World):Prop :=
 ∃ sv,e = .returned (.agg #[.int .u8 p.1.op, .int .i64 p.1.n,sv]) ∧ ArgsIn w' (fun b => w.heap.size ≤ b ∧ b < w'.heap.size) p.1.args sv ∧ R w' p.2 ∧ Fr (fun k => k = br) w w'
theorem prPost_mk {w w3:World} {R:World → PSt → Prop} {br s0:Nat} {st:PSt} {x:Ex} {sv:Value} {cs:Array Value} (hR:∀ w1 w2,R w1 st → Fr (fun k => k = s0) w1 w2 → R w2 st) (h0:Blk w3 s0 179 cs) (hcs:cs.size = 3)
  (hs0:w.heap.size ≤ s0) (ha:ArgsIn w3 (fun b => w.heap.size ≤ b ∧ b ≠ s0 ∧ b < w3.heap.size) x.args sv) (hr:R w3 st) (hf:Fr (fun k => k = br) w w3) :
  PrPost w R br (x,st) (.returned (.agg #[.int .u8 x.op, .int .i64 x.n,sv])) (((w3.setCell ⟨s0,0,none⟩ (.int .u8 x.op)).setCell ⟨s0,1,none⟩ (.int .i64 x.n)).setCell ⟨s0,2,none⟩ sv) ∧
   Blk (((w3.setCell ⟨s0,0,none⟩ (.int .u8 x.op)).setCell ⟨s0,1,none⟩ (.int .i64 x.n)).setCell ⟨s0,2,none⟩ sv) s0 179 #[.int .u8 x.op, .int .i64 x.n,sv]:=by
 have hF:Fr (fun k => k = s0) w3 (((w3.setCell ⟨s0,0,none⟩ (.int .u8 x.op)).setCell ⟨s0,1,none⟩ (.int .i64 x.n)).setCell ⟨s0,2,none⟩ sv) :=
  (((Fr.refl (fun k => k = s0) w3).setCell (p:=⟨s0,0,none⟩) (.inl rfl) _).setCell (p:=⟨s0,1,none⟩) (.inl rfl) _).setCell (p:=⟨s0,2,none⟩) (.inl rfl) _
 have hB:=((h0.set 0 (.int .u8 x.op)).set 1 (.int .i64 x.n)).set 2 sv
 obtain ⟨cs⟩:=cs
 match cs,hcs with
 | [c0,c1,c2],_ =>
  refine ⟨⟨sv,rfl, ?_,hR _ _ hr hF, ?_⟩,hB⟩
  ·exact ha.fr hF (fun b hb => ⟨hb.2.2,hb.2.1⟩) (fun b hb => ⟨hb.1,Nat.lt_of_lt_of_le hb.2.2 hF.size⟩)
  ·exact ((hf.setCell (p:=⟨s0,0,none⟩) (.inr hs0) _).setCell (p:=⟨s0,1,none⟩) (.inr hs0) _).setCell (p:=⟨s0,2,none⟩) (.inr hs0) _
set_option maxHeartbeats 400000 in
theorem rowis_c (br bt:Nat) (E:Int) (st:PSt) (s:ByteArray) (o:Int) (w:World) (h:RdAt w br E st) (hb:Blk w bt 343 #[.pointer (some ⟨br,0,none⟩)]) :
  Calls Tryz.prog 309 #[.agg #[.string s, .int .u8 o], .pointer (some ⟨bt,0,none⟩)] w fun e w' => e = .returned (.bool (st.isB s.toList)) ∧ RdAt w' br E (st.took s.toList) ∧ Fr (fun k => k = br) w w':=by
 have H:=Lib.hid h
 have hlt:=hb.lt
 have c0:=hb.cell 0
 clear h
 go_enter Tryz.func309,Tryz.ntmps309
 go_wp2_with (go_at_call 310; refine (is_c br E st s _ (H.out.keep ((Below.refl _ _).alloc (Nat.le_refl _) _))).mono ?_; rintro e w1 ⟨rfl,h1,hf1⟩)
 go_ret
 exact ⟨rfl,h1,((Fr.refl (fun k => k = br) w).alloc _).trans hf1⟩
def sgCells (sg:List (ByteArray × Int)):List Value:=sg.flatMap fun p => [.string p.1, .int .u8 p.2]
theorem sgCells_at (l:List (ByteArray × Int)) (k:Nat) (h:k < l.length):(sgCells l)[k * 2]? = some (.string (l[k]'h).1) ∧ (sgCells l)[k * 2 + 1]? = some (.int .u8 (l[k]'h).2):=by
 induction l generalizing k with
 | nil => simp at h
 | cons t l ih =>
  cases k with
  | zero => simp [sgCells]
  | succ k =>
   have hk:k < l.length:=by simpa using h
   have e:sgCells (t :: l) = .string t.1 :: .int .u8 t.2 :: sgCells l:=rfl
   rw [e,show (k + 1) * 2 = k * 2 + 1 + 1 by omega]
   simp only [List.getElem?_cons_succ,List.getElem_cons_succ]
   exact ih k hk
def SgAt (w:World) (bs:Nat) (sg:List (ByteArray × Int)):Prop:=Blk w bs 374 (sgCells sg).toArray ∧ sg.length ≤ 1000
theorem SgAt.at_ {w:World} {bs:Nat} {sg:List (ByteArray × Int)} (h:SgAt w bs sg) (k:Nat) (hk:k < sg.length) :
  w.cell? ⟨bs,k * 2,none⟩ = some (.string (sg[k]'hk).1) ∧ w.cell? ⟨bs,k * 2 + 1,none⟩ = some (.int .u8 (sg[k]'hk).2):=by
 obtain ⟨e0,e1⟩:=sgCells_at sg k hk
 rw [h.1.cell,h.1.cell]
 simpa using ⟨e0,e1⟩
set_option maxHeartbeats 1000000 in
theorem idx_none (br bt bs:Nat) (E:Int) (st:PSt) (sg:List (ByteArray × Int)) (w:World) (h:RdAt w br E st) (hb:Blk w bt 343 #[.pointer (some ⟨br,0,none⟩)]) (hs:SgAt w bs sg) (hbt:bt ≠ br) (hbs:bs ≠ br)
  (hno:∀ i (hi:i < sg.length),st.isB (sg[i]'hi).1.toList = false) :
  Calls Tryz.prog 308 #[.slice (some ⟨bs,0,none⟩) sg.length sg.length, .func (.func 309) #[] #[.pointer (some ⟨bt,0,none⟩)]] w
   fun e w' => e = .returned (.int .i64 (-1)) ∧ RdAt w' br E st ∧ Fr (fun k => k = br) w w':=by
 have H:=Lib.hid h
 have HB:=Lib.hid hb
 have HS:=Lib.hid hs
 have HNO:=Lib.hid hno
 have hn:=hs.2
 have hlb:=hb.lt
 have hls:=hs.1.lt
 have hlr:=h.lt
 obtain ⟨N,hN⟩:∃ N,sg.length = N:=⟨_,rfl⟩
 rw [hN] at hn ⊢
 have HN:=Lib.hid hN
 clear h hb hs hno hN
 go_enter Tryz.func308,Tryz.ntmps308
 go_wp2
 go_loopw [8] (fun q wr => ∃ k:Nat,q = .int .i64 k ∧ k ≤ N ∧ RdAt wr br E st ∧ Fr (fun k => k = br) w wr) (fun q _ => N - (intOf q).toNat)
 case atStart => exact ⟨0,rfl,Nat.zero_le _,H.out,Fr.refl _ _⟩
 case round =>
  obtain ⟨k,rfl,hk,hr,hf⟩:=hrel
  have HR:=Lib.hid hr
  clear hr
  by_cases hlt:k < N
  ·have hlk:k < sg.length:=by rw [HN.out]; exact hlt
   have hsr:SgAt wr bs sg:=⟨HS.out.1.fr hf hbs,HS.out.2⟩
   obtain ⟨c0,c1⟩:=hsr.at_ k hlk
   have hno:=HNO.out k hlk
   generalize sg[k] = p at *
   obtain ⟨s,o⟩:=p
   have HNK:=Lib.hid hno
   have HBR:=Lib.hid (HB.out.fr hf hbt)
   clear hno hsr
   have hsz:=hf.size
   go_wp2_with (go_at_call 309; refine (rowis_c br bt E st s o _ HR.out HBR.out).mono ?_; rintro e w1 ⟨rfl,h1,hf1⟩; rw [PSt.took] at h1; rw [HNK.out] at h1 ⊢; have H1:=Lib.hid h1; clear h1)
   go_roundw
   case rel => exact ⟨k + 1,by go_num,by omega,H1.out,hf.trans hf1⟩
   case measure => simp [intOf]; omega
  ·go_wp2
   go_ret
   exact ⟨rfl,HR.out,hf⟩
set_option maxHeartbeats 1000000 in
theorem idx_some (br bt bs:Nat) (E:Int) (st:PSt) (sg:List (ByteArray × Int)) (w:World) (h:RdAt w br E st) (hb:Blk w bt 343 #[.pointer (some ⟨br,0,none⟩)]) (hs:SgAt w bs sg) (hbt:bt ≠ br) (hbs:bs ≠ br)
  (j:Nat) (hj:j < sg.length) (hno:∀ i (hi:i < j),st.isB (sg[i]'(by omega)).1.toList = false) (hyes:st.isB (sg[j]'hj).1.toList = true) :
  Calls Tryz.prog 308 #[.slice (some ⟨bs,0,none⟩) sg.length sg.length, .func (.func 309) #[] #[.pointer (some ⟨bt,0,none⟩)]] w
   fun e w' => e = .returned (.int .i64 j) ∧ RdAt w' br E st.next ∧ Fr (fun k => k = br) w w':=by
 have H:=Lib.hid h
 have HB:=Lib.hid hb
 have HS:=Lib.hid hs
 have HNO:=Lib.hid hno
 have HYES:=Lib.hid hyes
 have hn:=hs.2
 have hlb:=hb.lt
 have hls:=hs.1.lt
 have hlr:=h.lt
 obtain ⟨N,hN⟩:∃ N,sg.length = N:=⟨_,rfl⟩
 rw [hN] at hn ⊢
 have hj2:j < N:=by omega
 have HJ:=Lib.hid hj
 have HN:=Lib.hid hN
 clear h hb hs hno hN hyes
 go_enter Tryz.func308,Tryz.ntmps308
 go_wp2
 go_loopw [8] (fun q wr => ∃ k:Nat,q = .int .i64 k ∧ k ≤ j ∧ RdAt wr br E st ∧ Fr (fun k => k = br) w wr) (fun q _ => N - (intOf q).toNat)
 case atStart => exact ⟨0,rfl,Nat.zero_le _,H.out,Fr.refl _ _⟩
 case round =>
  obtain ⟨k,rfl,hk,hr,hf⟩:=hrel
  have HR:=Lib.hid hr
  clear hr
  have hlk:k < sg.length:=by rw [HN.out]; omega
  have hltN:k < N:=by omega
  have hsr:SgAt wr bs sg:=⟨HS.out.1.fr hf hbs,HS.out.2⟩
  obtain ⟨c0,c1⟩:=hsr.at_ k hlk
  have HBR:=Lib.hid (HB.out.fr hf hbt)
  have hsz:=hf.size
  by_cases hlt:k < j
  ·have hno:=HNO.out k hlt
   generalize sg[k] = p at *
   obtain ⟨s,o⟩:=p
   have HNK:=Lib.hid hno
   clear hno hsr
   go_wp2_with (go_at_call 309; refine (rowis_c br bt E st s o _ HR.out HBR.out).mono ?_; rintro e w1 ⟨rfl,h1,hf1⟩; rw [PSt.took] at h1; rw [HNK.out] at h1 ⊢; have H1:=Lib.hid h1; clear h1)
   go_roundw
   case rel => exact ⟨k + 1,by go_num,by omega,H1.out,hf.trans hf1⟩
   case measure => simp [intOf]; omega
  ·obtain rfl:k = j:=by omega
   have hno:=HYES.out
   generalize sg[k] = p at *
   obtain ⟨s,o⟩:=p
   have HNK:=Lib.hid hno
   clear hno hsr
   go_wp2_with (go_at_call 309; refine (rowis_c br bt E st s o _ HR.out HBR.out).mono ?_; rintro e w1 ⟨rfl,h1,hf1⟩; rw [PSt.took] at h1; rw [HNK.out] at h1 ⊢; have H1:=Lib.hid h1; clear h1)
   go_ret
   exact ⟨rfl,H1.out,hf.trans hf1⟩
def SlP (w:World) (P:Nat → Prop) (size:Nat) (v:Value) (n:Nat) (cs:List Value):Prop :=
 cs.length = n * size ∧ ∃ a cap,v = .slice a n cap ∧ n ≤ cap ∧ cap ≤ maxLen ∧ (n = 0 ∨ ∃ b off,a = some ⟨b,off,none⟩ ∧ P b ∧ ∀ j,j < n * size → w.cell? ⟨b,off + j,none⟩ = cs[j]?)
theorem SlP.keep {w w':World} {P Q:Nat → Prop} {size n:Nat} {v:Value} {cs:List Value} (h:SlP w P size v n cs) (hPQ:∀ b,P b → Q b) (hk:∀ b,P b → w'.heap[b]? = w.heap[b]?):SlP w' Q size v n cs:=by
 obtain ⟨h1,a,cap,hv,h2,h3,h4⟩:=h
 refine ⟨h1,a,cap,hv,h2,h3,h4.imp id ?_⟩
 rintro ⟨b,off,ha,hp,hc⟩
 exact ⟨b,off,ha,hPQ b hp,fun j hj => (World.cell?_of_block (hk b hp)).trans (hc j hj)⟩
theorem SlP.toSl {w:World} {P:Nat → Prop} {B size n:Nat} {v:Value} {cs:List Value} (h:SlP w P size v n cs) (hP:∀ b,P b → b < B):Sl w B size v n cs:=by
 obtain ⟨h1,a,cap,hv,h2,h3,h4⟩:=h
 refine ⟨h1,a,cap,hv,h2,h3,h4.imp id ?_⟩
 rintro ⟨b,off,ha,hp,hc⟩
 exact ⟨b,off,ha,hP b hp,hc⟩
theorem SlP.of_ins {w:World} {P:Nat → Prop} {l:List Int} {v:Value} (h:InsP w P l v):SlP w P 1 v l.length (l.map (Value.int .i64)):=by
 rcases h with ⟨rfl,rfl⟩ | ⟨g,cap,rfl,hp,h1,h2,h3⟩
 ·exact ⟨rfl,none,0,rfl,Nat.le_refl _,Nat.zero_le _, .inl rfl⟩
 ·exact ⟨by simp,_,cap,rfl,h1,h2, .inr ⟨g,0,rfl,hp,fun j hj => by rw [Nat.zero_add]; exact h3 j (by omega)⟩⟩
def NdP (w:World) (P:Nat → Prop) (iv sv:Value) (d:Nd):Prop:=SlP w P 1 iv d.ins.length (d.ins.map (Value.int .i64)) ∧ ArgsIn w P d.x.args sv
def NodesIn (w:World) (P:Nat → Prop) (l:List Nd) (v:Value):Prop :=
 ∃ a cap,v = .slice a l.length cap ∧ l.length ≤ cap ∧ cap ≤ maxLen ∧ (l.length = 0 ∨ ∃ b off,a = some ⟨b,off,none⟩ ∧ P b ∧ ∀ j (h:j < l.length),(l[j]'h).uid.size ≤ maxLen ∧ ∃ iv sv,
  w.cell? ⟨b,off + j * 7,none⟩ = some (.string (l[j]'h).uid) ∧ w.cell? ⟨b,off + j * 7 + 1,none⟩ = some (.int .u8 (l[j]'h).kind) ∧ w.cell? ⟨b,off + j * 7 + 2,none⟩ = some iv ∧
  w.cell? ⟨b,off + j * 7 + 3,none⟩ = some (.int .u8 (l[j]'h).x.op) ∧ w.cell? ⟨b,off + j * 7 + 4,none⟩ = some (.int .i64 (l[j]'h).x.n) ∧ w.cell? ⟨b,off + j * 7 + 5,none⟩ = some sv ∧
  w.cell? ⟨b,off + j * 7 + 6,none⟩ = some (.int .i64 (l[j]'h).n) ∧ NdP w P iv sv (l[j]'h))
namespace NodesIn
variable {w w':World} {P Q:Nat → Prop} {l:List Nd} {v:Value}
theorem nil (w:World) (P:Nat → Prop):NodesIn w P [] (.slice none 0 0):=⟨none,0,rfl,Nat.le_refl _,Nat.zero_le _, .inl rfl⟩
theorem keep (h:NodesIn w P l v) (hPQ:∀ b,P b → Q b) (hk:∀ b,P b → w'.heap[b]? = w.heap[b]?):NodesIn w' Q l v:=by
 obtain ⟨a,cap,rfl,h1,h2,h3⟩:=h
 refine ⟨a,cap,rfl,h1,h2,h3.imp id ?_⟩
 rintro ⟨b,off,rfl,hb,hc⟩
 refine ⟨b,off,rfl,hPQ b hb,fun j hj => ?_⟩
 obtain ⟨u,iv,sv,c0,c1,c2,c3,c4,c5,c6,hs⟩:=hc j hj
 have g:∀ k,w'.cell? ⟨b,k,none⟩ = w.cell? ⟨b,k,none⟩:=fun k => World.cell?_of_block (hk b hb)
 exact ⟨u,iv,sv,(g _).trans c0,(g _).trans c1,(g _).trans c2,(g _).trans c3,(g _).trans c4,(g _).trans c5,(g _).trans c6,hs.1.keep hPQ hk,hs.2.keep hPQ hk⟩
theorem fr {S:Nat → Prop} (h:NodesIn w P l v) (hf:Fr S w w') (hP:∀ b,P b → b < w.heap.size ∧ ¬ S b) (hPQ:∀ b,P b → Q b):NodesIn w' Q l v:=h.keep hPQ fun b hb => hf.block b (hP b hb).1 (hP b hb).2
theorem mono (h:NodesIn w P l v) (hPQ:∀ b,P b → Q b):NodesIn w Q l v:=h.keep hPQ fun _ _ => rfl
theorem toAt {B:Nat} (h:NodesIn w P l v) (hP:∀ b,P b → b < B):NodesAt w B l v:=by
 obtain ⟨a,cap,rfl,h1,h2,h3⟩:=h
 refine ⟨a,cap,rfl,h1,h2,h3.imp id ?_⟩
 rintro ⟨b,off,rfl,hb,hc⟩
 refine ⟨b,off,rfl,hP b hb,fun j hj => ?_⟩
 obtain ⟨u,iv,sv,c0,c1,c2,c3,c4,c5,c6,hs⟩:=hc j hj
 exact ⟨u,iv,sv,c0,c1,c2,c3,c4,c5,c6,hs.1.toSl hP,hs.2.toAt hP⟩
theorem slice (h:NodesIn w P l v):∃ a cap,v = .slice a l.length cap ∧ l.length ≤ cap ∧ cap ≤ maxLen:=by
 obtain ⟨a,cap,rfl,h1,h2,_⟩:=h
 exact ⟨a,cap,rfl,h1,h2⟩
end NodesIn
def JbIn (w:World) (P:Nat → Prop) (v:Value) (j:Jb):Prop:=∃ sv,v = .agg #[.int .i64 j.par,sv] ∧ NodesIn w P j.nodes sv
theorem JbIn.toAt {w:World} {P:Nat → Prop} {B:Nat} {v:Value} {j:Jb} (h:JbIn w P v j) (hP:∀ b,P b → b < B):JbAt w B v j:=let ⟨sv,h1,h2⟩:=h; ⟨sv,h1,h2.toAt hP⟩
set_option maxHeartbeats 400000 in
theorem ints_c (l1 l2:List Int) (n1 n2:Nat) (v1 v2:Value) (B:Nat) (w:World) (h1:Sl w B 1 v1 n1 (l1.map (Value.int .i64))) (h2:Sl w B 1 v2 n2 (l2.map (Value.int .i64))) (hn1:l1.length = n1) (hn2:l2.length = n2) :
  Calls Tryz.prog 139 #[v1,v2] w fun e w' => e = .returned (.bool (intsB l1 l2)) ∧ ∃ n,w' = w.drewN n:=by
 by_cases hl:n1 = n2
 ·obtain rfl:n1 = n2:=hl
  obtain ⟨_,a1,cap1,rfl,hc1,hm1,_⟩:=id h1
  obtain ⟨_,a2,cap2,rfl,hc2,hm2,_⟩:=id h2
  have H1:=Lib.hid h1
  have H2:=Lib.hid h2
  have HN1:=Lib.hid hn1
  have HN2:=Lib.hid hn2
  have hnm:n1 ≤ 9223372036854775807:=by unfold maxLen at hm1; omega
  clear h1 h2 hn1 hn2
  rename_i hx1 hx2 hx3 hx4
  clear hx1 hx2 hx3 hx4
  go_enter Tryz.func139,Tryz.ntmps139
  go_wp2
  go_loopw [5] (fun i wr => ∃ k m:Nat,i = .int .i64 k ∧ k ≤ n1 ∧ wr = w.drewN m ∧ intsB (l1.drop k) (l2.drop k) = intsB l1 l2) (fun i _ => n1 - (intOf i).toNat)
  case atStart => exact ⟨0,0,rfl,by omega,rfl,rfl⟩
  case round =>
   obtain ⟨k,m,rfl,hk,rfl,hr⟩:=hrel
   by_cases hlt:k < n1
   ·obtain ⟨b1,o1,c1,e1,_,g1,p0⟩:=H1.out.int k hlt
    obtain ⟨b2,o2,c2,e2,_,g2,q0⟩:=H2.out.int k hlt
    simp only [Value.slice.injEq,true_and] at e1 e2
    obtain ⟨rfl,rfl⟩:=e1
    obtain ⟨rfl,rfl⟩:=e2
    rw [List.drop_eq_getElem_cons g1,List.drop_eq_getElem_cons g2] at hr
    generalize l1[k] = x at *
    generalize l2[k] = y at *
    simp only [intsB] at hr
    have HR:=Lib.hid hr
    clear hr
    by_cases hxy:x = y
    ·have HXY:Hid ((x == y) = true):=by simpa [Hid] using hxy
     have hq:(x != y) = false:=by simpa using hxy
     clear hxy
     go_wp2
     go_quiet (fail)
     go_wp2
     go_roundw
     case rel => exact ⟨k + 1,m + nq,by go_num,by omega,rfl,by rw [← HR.out,HXY.out,Bool.true_and]⟩
     case measure => simp [intOf]; omega
    ·have HXY:Hid ((x == y) = false):=by simpa [Hid] using hxy
     have hq:(x != y) = true:=by simpa using hxy
     clear hxy
     go_wp2
     go_quiet (fail)
     go_wp2
     go_ret
     exact ⟨ret_bool (by rw [← HR.out,HXY.out]; rfl),_,World.drewN_drewN _ _ _⟩
   ·have e1:l1.drop k = []:=List.drop_of_length_le (by have:=HN1.out; omega)
    have e2:l2.drop k = []:=List.drop_of_length_le (by have:=HN2.out; omega)
    rw [e1,e2] at hr
    have HR:=Lib.hid hr
    clear hr e1 e2
    go_wp2
    go_ret
    exact ⟨ret_bool (by rw [← HR.out]; rfl),_,rfl⟩
 ·obtain ⟨_,a1,cap1,rfl,hc1,hm1,_⟩:=h1
  obtain ⟨_,a2,cap2,rfl,hc2,hm2,_⟩:=h2
  rename_i hx1 hx2 hx3 hx4
  clear hx1 hx2 hx3 hx4
  have hne:((n1:Int) != (n2:Int)) = true:=by rw [bne_iff_ne]; omega
  have HE:=Lib.hid (intsB_len l1 l2 (by omega))
  clear hn1 hn2
  go_enter Tryz.func139,Tryz.ntmps139
  go_wp2
  go_ret
  exact ⟨ret_bool HE.out.symm,0,rfl⟩
set_option maxHeartbeats 2000000 in
theorem rJSame_c (jx jy:Jb) (v u:Value) (B:Nat) (w:World) (hv:JbAt w B v jx) (hu:JbAt w B u jy) (hB:B ≤ w.heap.size) :
  Calls Tryz.prog 81 #[v,u] w fun e w' => e = .returned (.bool (jx.sameB jy)) ∧ Below w.heap.size w w':=by
 obtain ⟨sv,rfl,hs⟩:=hv
 obtain ⟨tv,rfl,ht⟩:=hu
 obtain ⟨a,cap,rfl,hcap,hmx⟩:=hs.slice
 obtain ⟨a',cap',rfl,hcap',hmx'⟩:=ht.slice
 have HS:=Lib.hid hs
 have HT:=Lib.hid ht
 have HE:Hid (jx.sameB jy = ((jx.par == jy.par) && Nds.sameB jx.nodes jy.nodes)):=rfl
 generalize jx.sameB jy = res at *
 generalize jx.par = p at *
 generalize jy.par = p' at *
 generalize jx.nodes = l at *
 generalize jy.nodes = m at *
 have hW:=((Below.refl w.heap.size w).alloc (Nat.le_refl _) (.cells #[.int .i64 p, .slice a l.length cap] 26)).alloc (by simp) (.cells #[.int .i64 p', .slice a' m.length cap'] 26)
 clear hs ht
 by_cases hp:p = p'
 ·by_cases hlen:l.length = m.length
  ·have q1:(p != p') = false:=by simpa using hp
   have HE2:Hid (res = Nds.sameB l m):=by show _ = _; rw [HE.out,hp]; simp
   obtain ⟨n,hn⟩:∃ n,l.length = n:=⟨_,rfl⟩
   have hn':m.length = n:=by omega
   have HN:=Lib.hid hn
   have HN':=Lib.hid hn'
   have hnm:n ≤ 9223372036854775807:=by unfold maxLen at hmx; omega
   rw [hn,hn'] at hW
   have hb1:=(Blk.new w #[.int .i64 p, .slice a n cap] 26).alloc (.cells #[.int .i64 p', .slice a' n cap'] 26)
   have hb2:=Blk.new_at (w.alloc (.cells #[.int .i64 p, .slice a n cap] 26)) #[.int .i64 p', .slice a' n cap'] 26 (k:=w.heap.size + 1) (by simp)
   rw [hn,hn']
   clear hn hn' hlen hp HE
   go_enter Tryz.func81,Tryz.ntmps81
   go_wp2_with fail
   generalize World.alloc (World.alloc w _) _ = W at *
   have hlo2:=hb2.lt
   go_loopw [5] (fun q wr => ∃ j:Nat,q = .int .i64 j ∧ j ≤ n ∧ Below W.heap.size W wr ∧ Nds.sameB (l.drop j) (m.drop j) = Nds.sameB l m) (fun q _ => n - (intOf q).toNat)
   case atStart => exact ⟨0,rfl,Nat.zero_le _,Below.refl _ _,rfl⟩
   case round =>
    obtain ⟨j,rfl,hj,hBr,hr⟩:=hrel
    have hbr1:=hb1.below hBr hb1.lt
    have hbr2:=hb2.below hBr hb2.lt
    have p2:=hbr1.cell 1
    have q2:=hbr2.cell 1
    have hlr1:=hbr1.lt
    have hlr2:=hbr2.lt
    have hBw:=hW.trans (hBr.mono hW.size)
    by_cases hlt:j < n
    ·have hj1:j < l.length:=by have:=HN.out; omega
     have hj2:j < m.length:=by have:=HN'.out; omega
     obtain ⟨b,off,cp,e1,hb,hu,iv,sv,c0,c1,c2,c3,c4,c5,c6,hin⟩:=((HS.out.mono hB).keep hBw).at_ j hj1
     obtain ⟨b',off',cp',e2,hb',hu',iv',sv',d0,d1,d2,d3,d4,d5,d6,hin'⟩:=((HT.out.mono hB).keep hBw).at_ j hj2
     rw [HN.out] at e1
     rw [HN'.out] at e2
     simp only [Value.slice.injEq,true_and] at e1 e2
     obtain ⟨rfl,rfl⟩:=e1
     obtain ⟨rfl,rfl⟩:=e2
     obtain ⟨a2,cap2,rfl,_,_⟩:=hin.2.slice
     obtain ⟨a3,cap3,rfl,_,_⟩:=hin'.2.slice
     obtain ⟨_,ai,capi,rfl,_,_,_⟩:=id hin.1
     obtain ⟨_,bi,capj,rfl,_,_,_⟩:=id hin'.1
     rw [List.drop_eq_getElem_cons hj1,List.drop_eq_getElem_cons hj2] at hr
     simp only [Nds.sameB] at hr
     have hbw:=Nat.lt_of_lt_of_le hb hBw.size
     have hbw':=Nat.lt_of_lt_of_le hb' hBw.size
     generalize l[j] = x at *
     generalize m[j] = y at *
     have HX:=Lib.hid (hin.mono hBw.size)
     have HY:=Lib.hid (hin'.mono hBw.size)
     have HR:=Lib.hid hr
     rename_i hx1 hx2 hx3 hx4 hx5 hx6 hx7 hx8 hx9 hx10
     clear hr hin hin' hu hu' hx1 hx2 hx3 hx4 hx5 hx6 hx7 hx8 hx9 hx10
     have hBn:=((Below.refl wr.heap.size wr).alloc (Nat.le_refl _) (.cells #[.string x.uid, .int .u8 x.kind, .slice ai x.ins.length capi, .int .u8 x.x.op, .int .i64 x.x.n, .slice a2 x.x.args.length cap2, .int .i64 x.n] 181)).alloc (by simp) (.cells #[.string y.uid, .int .u8 y.kind, .slice bi y.ins.length capj, .int .u8 y.x.op, .int .i64 y.x.n, .slice a3 y.x.args.length cap3, .int .i64 y.n] 181)
     have hwz:((wr.alloc (.cells #[.string x.uid, .int .u8 x.kind, .slice ai x.ins.length capi, .int .u8 x.x.op, .int .i64 x.x.n, .slice a2 x.x.args.length cap2, .int .i64 x.n] 181)).alloc (.cells #[.string y.uid, .int .u8 y.kind, .slice bi y.ins.length capj, .int .u8 y.x.op, .int .i64 y.x.n, .slice a3 y.x.args.length cap3, .int .i64 y.n] 181)).heap.size = wr.heap.size + 2:=by simp
     have hNX:=(Blk.new wr #[.string x.uid, .int .u8 x.kind, .slice ai x.ins.length capi, .int .u8 x.x.op, .int .i64 x.x.n, .slice a2 x.x.args.length cap2, .int .i64 x.n] 181).alloc (.cells #[.string y.uid, .int .u8 y.kind, .slice bi y.ins.length capj, .int .u8 y.x.op, .int .i64 y.x.n, .slice a3 y.x.args.length cap3, .int .i64 y.n] 181)
     have hNY:=Blk.new_at (wr.alloc (.cells #[.string x.uid, .int .u8 x.kind, .slice ai x.ins.length capi, .int .u8 x.x.op, .int .i64 x.x.n, .slice a2 x.x.args.length cap2, .int .i64 x.n] 181)) #[.string y.uid, .int .u8 y.kind, .slice bi y.ins.length capj, .int .u8 y.x.op, .int .i64 y.x.n, .slice a3 y.x.args.length cap3, .int .i64 y.n] 181 (k:=wr.heap.size + 1) (by simp)
     have hbi:=bytes_inj x.uid y.uid
     have HCS:=Lib.hid (Nd.sameB_cases x y)
     rcases HCS.out with ⟨h1,h2,h3,h4,hrr⟩ | ⟨hrr,hc⟩
     ·clear HCS
      have q1:(x.uid.toList == y.uid.toList) = true:=by simpa using hbi.2 h1
      have q1':(x.uid.toList != y.uid.toList) = false:=by simpa using hbi.2 h1
      have q3:(x.kind != y.kind) = false:=by simpa using h2
      have q4:(x.n != y.n) = false:=by simpa using h3
      have H4:=Lib.hid h4
      have HRR:=Lib.hid hrr
      clear h1 h2 h3 h4 hrr hbi
      cases hs:x.x.sameB y.x
      all_goals
       have HS:=Lib.hid hs
       clear hs
       go_upto_region 8 with fail
       generalize World.alloc (World.alloc wr _) _ = W2 at *
       have HWZ:=Lib.hid hwz
       have hwz2:wr.heap.size + 2 ≤ W2.heap.size:=by omega
       have x0:=hNX.cell 0
       have x1:=hNX.cell 1
       have x2:=hNX.cell 2
       have x3:=hNX.cell 3
       have x4:=hNX.cell 4
       have x5:=hNX.cell 5
       have x6:=hNX.cell 6
       have y0:=hNY.cell 0
       have y1:=hNY.cell 1
       have y2:=hNY.cell 2
       have y3:=hNY.cell 3
       have y4:=hNY.cell 4
       have y5:=hNY.cell 5
       have y6:=hNY.cell 6
       clear hwz
       go_wp2_with (first
        | (go_at_call 139; refine (ints_c x.ins y.ins _ _ _ _ wr.heap.size _ (HX.out.1.below hBn) (HY.out.1.below hBn) rfl rfl).mono ?_; rintro e w3 ⟨rfl,nq,rfl⟩; rw [H4.out])
        | (go_at_call 140; refine (rSame_c x.x y.x _ _ wr.heap.size _ ⟨_,rfl,HX.out.2.keep (below_drewN hBn nq)⟩ ⟨_,rfl,HY.out.2.keep (below_drewN hBn nq)⟩ (by have:=hBn.size; simp; omega)).mono ?_; rintro e w4 ⟨rfl,hb4⟩; rw [HS.out]))
      ·go_ret
       exact ⟨ret_bool (by rw [HE2.out, ← HR.out,HRR.out,HS.out]; rfl),hBw.trans (((below_drewN hBn nq).trans (hb4.mono (by simp; omega))).mono hBw.size)⟩
      ·go_roundw
       case rel => exact ⟨j + 1,by go_num,by omega,hBr.trans (((below_drewN hBn nq).trans (hb4.mono (by simp; omega))).mono hBr.size),by rw [← HR.out,HRR.out,HS.out,Bool.true_and]⟩
       case measure => simp [intOf]; omega
     ·have HRR:=Lib.hid hrr
      clear hrr HCS
      rcases hc with h1 | ⟨h1,h2⟩ | ⟨h1,h2,h3⟩ | ⟨h1,h2,h3,h4⟩
      ·skip
       have q1:(x.uid.toList == y.uid.toList) = false:=by simpa using fun h => h1 (hbi.1 h)
       have q1':(x.uid.toList != y.uid.toList) = true:=by simpa using fun h => h1 (hbi.1 h)
       clear h1 hbi hNX hNY hwz
       go_wp2_with fail
       go_ret
       exact ⟨ret_bool (by rw [HE2.out, ← HR.out,HRR.out]; rfl),hBw.trans (hBn.mono hBw.size)⟩
      ·skip
       have q1:(x.uid.toList == y.uid.toList) = true:=by simpa using hbi.2 h1
       have q1':(x.uid.toList != y.uid.toList) = false:=by simpa using hbi.2 h1
       have q3:(x.kind != y.kind) = true:=by simpa using h2
       clear h1 h2 hbi hNX hNY hwz
       go_wp2_with fail
       go_ret
       exact ⟨ret_bool (by rw [HE2.out, ← HR.out,HRR.out]; rfl),hBw.trans (hBn.mono hBw.size)⟩
      ·skip
       have q1:(x.uid.toList == y.uid.toList) = true:=by simpa using hbi.2 h1
       have q1':(x.uid.toList != y.uid.toList) = false:=by simpa using hbi.2 h1
       have q3:(x.kind != y.kind) = false:=by simpa using h2
       have q4:(x.n != y.n) = true:=by simpa using h3
       clear h1 h2 h3 hbi hNX hNY hwz
       go_wp2_with fail
       go_ret
       exact ⟨ret_bool (by rw [HE2.out, ← HR.out,HRR.out]; rfl),hBw.trans (hBn.mono hBw.size)⟩
      ·skip
       have q1:(x.uid.toList == y.uid.toList) = true:=by simpa using hbi.2 h1
       have q1':(x.uid.toList != y.uid.toList) = false:=by simpa using hbi.2 h1
       have q3:(x.kind != y.kind) = false:=by simpa using h2
       have q4:(x.n != y.n) = false:=by simpa using h3
       have H4:=Lib.hid h4
       clear h1 h2 h3 h4 hbi hNX hNY hwz
       go_wp2_with (go_at_call 139; refine (ints_c x.ins y.ins _ _ _ _ wr.heap.size _ (HX.out.1.below hBn) (HY.out.1.below hBn) rfl rfl).mono ?_; rintro e w3 ⟨rfl,nq,rfl⟩; rw [H4.out])
       go_ret
       exact ⟨ret_bool (by rw [HE2.out, ← HR.out,HRR.out]; rfl),hBw.trans ((below_drewN hBn nq).mono hBw.size)⟩
    ·rw [List.drop_of_length_le (by have:=HN.out; omega),List.drop_of_length_le (by have:=HN'.out; omega)] at hr
     have HR:=Lib.hid hr
     clear hr
     go_wp2
     go_ret
     exact ⟨ret_bool (by rw [HE2.out, ← HR.out]; rfl),hBw⟩
  ·have q1:(p != p') = false:=by simpa using hp
   have q2:((l.length:Int) != (m.length:Int)) = true:=by rw [bne_iff_ne]; omega
   have HE2:Hid (res = false):=by show _ = _; rw [HE.out,Nds.sameB_len l m hlen,Bool.and_false]
   clear hp hlen HE
   go_enter Tryz.func81,Tryz.ntmps81
   go_wp2
   go_ret
   exact ⟨ret_bool HE2.out.symm,hW⟩
 ·have q1:(p != p') = true:=by simpa using hp
  have HE2:Hid (res = false):=by
   show _ = _
   rw [HE.out,show (p == p') = false by simpa using hp]; rfl
  clear hp HE
  go_enter Tryz.func81,Tryz.ntmps81
  go_wp2
  go_ret
  exact ⟨ret_bool HE2.out.symm,hW⟩

end Go.Proofs.YtpkijdkoiecpiaaGreatDoor
