/-
  Parts of the proof: N5.
-/
import Derived.Deep.AppendLies
import Derived.Test.YtpkijdkoiecpiaaGreatDoorZS43
import Derived.Test.YtpkijdkoiecpiaaGreatDoorZS44
namespace Go.Proofs.YtpkijdkoiecpiaaGreatDoor
open Go.RowKit
set_option linter.unusedVariables false
set_option linter.unusedSimpArgs false
theorem spl_le:∀ (l cur:List UInt8),(spl cur l).length ≤ cur.length + l.length ∧ ∀ x ∈ spl cur l,x.length ≤ cur.length + l.length
 | [],cur => by
  simp only [spl]
  cases cur with
  | nil => simp
  | cons a l => simp
 | b :: l,cur => by
  simp only [spl]
  cases hb:blankU b
  ·have:=spl_le l (cur ++ [b])
   simp only [cond_false]
   refine ⟨by have:=this.1; simp at this ⊢; omega,fun x hx => ?_⟩
   have:=this.2 x hx
   simp at this ⊢; omega
  ·have ih:=spl_le l []
   simp only [cond_true]
   cases cur with
   | nil =>
    simp only [List.isEmpty_nil,cond_true]
    refine ⟨by have:=ih.1; simp at this ⊢; omega,fun x hx => ?_⟩
    have:=ih.2 x hx
    simp at this ⊢; omega
   | cons a r =>
    simp only [List.isEmpty_cons,cond_false]
    refine ⟨by have:=ih.1; simp at this ⊢; omega,fun x hx => ?_⟩
    rcases List.mem_cons.1 hx with rfl | hx
    ·simp
    ·have:=ih.2 x hx
     simp at this ⊢; omega
theorem words_le (s:ByteArray):(wordsB s).1.length ≤ 400 ∧ ∀ x ∈ (wordsB s).1,x.size ≤ 400:=by
 unfold wordsB
 by_cases h:400 < s.size
 ·rw [if_pos h]; simp
 ·rw [if_neg h]
  cases (runes s).any badR
  ·simp only [cond_false,List.length_map]
   have hl:=Lib.size_eq s
   have:=spl_le s.data.toList []
   refine ⟨by have:=this.1; simp at this; omega,fun x hx => ?_⟩
   obtain ⟨y,hy,rfl⟩:=List.mem_map.1 hx
   have:=this.2 y hy
   rw [ba_size]
   simp at this; omega
  ·simp
theorem ahead_le (s:ByteArray):(ba (aheadL s)).size ≤ s.size:=by
 rw [ba_size,Lib.size_eq]
 exact (List.takeWhile_prefix _).length_le
def LinePost (j:Jb) (s:ByteArray) (first:Bool) (jb B0:Nat) (P:Nat → Prop) (av:Value) (w:World) (e:Ending) (w':World):Prop :=
 e = .returned (.int .i64 (pLine j s first).2) ∧ Fr (fun k => k = jb ∨ av.ownBlock = some k) w w' ∧ ∃ av' cs ivs svs,Blk w' jb 26 #[.int .i64 (pLine j s first).1.par,av'] ∧ NRw B0 (fun b => P b ∨ w.heap.size ≤ b) w' (pLine j s first).1.nodes av' cs ivs svs
theorem linePost_same {j:Jb} {s:ByteArray} {first:Bool} {jb B0:Nat} {P:Nat → Prop} {av:Value} {cs:List Value} {ivs svs:Nat → Value} {w w':World} {z:Int} (hp:pLine j s first = (j,z)) (hj:Blk w jb 26 #[.int .i64 j.par,av]) (hn:NRw B0 P w j.nodes av cs ivs svs) (hb:Below w.heap.size w w') :
  LinePost j s first jb B0 P av w (.returned (.int .i64 z)) w':=by
 unfold LinePost
 rw [hp]
 exact ⟨rfl,Fr.of_new hb,av,cs,ivs,svs,hj.below hb hj.lt,hn.keepP hb.size (fun q hq => hb.block q (hn.own.lt q hq).2) (fun b hp hl _ => ⟨.inl hp,hb.block b hl⟩)⟩
set_option maxRecDepth 100000 in
set_option maxHeartbeats 4000000 in
theorem line_first (j:Jb) (s:ByteArray) (jb B0:Nat) (P:Nat → Prop) (av:Value) (cs:List Value) (ivs svs:Nat → Value) (w:World) (hj:Blk w jb 26 #[.int .i64 j.par,av]) (hn:NRw B0 P w j.nodes av cs ivs svs) (hB0:jb < B0) (hP:∀ b,P b → B0 ≤ b) (hs:s.size ≤ maxLen) :
  Calls Tryz.prog 189 #[.pointer (some ⟨jb,0,none⟩), .string s, .bool true] w (LinePost j s true jb B0 P av w):=by
 have hlw:=words_le (ba (aheadL s))
 have hla:=ahead_le s
 have HP:Hid (pLine j s true = if (wordsB (ba (aheadL s))).2 ≠ 0 then (j,(wordsB (ba (aheadL s))).2) else match (wordsB (ba (aheadL s))).1 with
  | [a,b] => if a ≠ parW ∨ hasColon s = true then (j,130) else bif (numB b 1).2 then (⟨(numB b 1).1,j.nodes⟩,0) else (j,130)
  | _ => (j,130)):=rfl
 have HJ:=Lib.hid hj
 have HN:=Lib.hid hn
 have hjl:=hj.lt
 have HPT:=Lib.hid (sparts_c s w hs)
 have HWD:Hid (∀ w,Calls Tryz.prog 222 #[.string (ba (aheadL s))] w (WordsPost (ba (aheadL s)) w)):=fun w => Words_c _ w (by omega)
 unfold WordsPost at HWD
 generalize wordsB (ba (aheadL s)) = W at *
 generalize ba (aheadL s) = A at *
 generalize hasColon s = C at *
 generalize (bif C then ba (behindL s) else { data:=#[] }) = BH at *
 obtain ⟨wl,we⟩:=W
 dsimp only at hlw HP
 have LP:Hid (∀ (z:Int) (w':World),pLine j s true = (j,z) → Below w.heap.size w w' → LinePost j s true jb B0 P av w (.returned (.int .i64 z)) w'):=fun z w' h hb => linePost_same h hj hn hb
 clear hj hn hla
 go_enter Tryz.func189,Tryz.ntmps189
 go_wp2_with fail
 refine HPT.out.mono ?_
 rintro e w1 ⟨rfl,hb1⟩
 go_wp2_with fail
 refine (HWD.out w1).mono ?_
 rintro e w2 ⟨v,rfl,hsl,hb2⟩
 have hb3:=hb1.trans (hb2.mono hb1.size)
 obtain ⟨_,a,cap,rfl,hcap,hmx,_⟩:=id hsl
 have HSL:=Lib.hid hsl
 clear hsl HPT HWD
 by_cases he:we = 0
 ·subst he
  rw [if_neg (fun h => h rfl)] at HP
  by_cases hl:wl.length = 2
  ·obtain ⟨x,y,rfl⟩:∃ x y,wl = [x,y]:=by
    match wl,hl with
    | [x,y],_ => exact ⟨x,y,rfl⟩
   dsimp only at HP
   obtain ⟨b0,o0,k0,e0,hlt0,_,c0⟩:=HSL.out.str 0 (by simp)
   obtain ⟨_,_,_,e1,_,_,c1⟩:=HSL.out.str 1 (by simp)
   simp only [Value.slice.injEq,true_and] at e0
   obtain ⟨rfl,rfl⟩:=e0
   simp only [Value.slice.injEq,true_and,Option.some.injEq,Addr.mk.injEq,and_true] at e1
   obtain ⟨⟨rfl,rfl⟩,rfl⟩:=e1
   rw [Nat.add_zero] at c0
   simp only [List.getElem_cons_zero,List.getElem_cons_succ] at c0 c1
   have hys:y.size ≤ maxLen:=by have:=hlw.2 y (by simp); unfold maxLen; omega
   clear hl hlw hcap hmx
   by_cases hx:x = { data:=#[112,97,114] }
   ·subst hx
    cases C
    ·rw [if_neg (fun h => h.elim (fun h => h rfl) (fun h => by cases h))] at HP
     have HNM:Hid (∀ w,Calls Tryz.prog 223 #[.string y, .int .i64 1] w fun e w' => e = .returned (.tuple #[.int .i64 (numB y 1).1, .bool (numB y 1).2]) ∧ Below w.heap.size w w'):=fun w => snumber_c y 1 (by omega) w hys
     generalize numB y 1 = nb at *
     obtain ⟨nv,nok⟩:=nb
     go_wp2_with fail
     refine (HNM.out w2).mono ?_
     rintro e w3 ⟨rfl,hb4⟩
     have hb5:=hb3.trans (hb4.mono hb3.size)
     clear c0 c1
     cases nok
     ·go_wp2_with fail
      go_ret
      exact LP.out _ _ HP.out hb5
     ·have hj3:=HJ.out.below hb5 hjl
      have hn3:=HN.out.keepP (P':=fun b => P b ∨ w.heap.size ≤ b) hb5.size (fun q hq => hb5.block q (HN.out.own.lt q hq).2) (fun b hp hl _ => ⟨.inl hp,hb5.block b hl⟩)
      have HN3:=Lib.hid hn3
      have HJ3:=Lib.hid hj3
      have j0:=hj3.cell 0
      have jf:=hj3.free 0
      clear hn3 hj3
      go_wp2_with fail
      go_ret
      have hfr:Fr (fun k => k = jb) w3 (w3.setCell ⟨jb,0,none⟩ (.int .i64 nv)):=(Fr.refl (fun k => k = jb) w3).setCell (p:=⟨jb,0,none⟩) (.inl rfl) _
      unfold LinePost
      rw [HP.out]
      refine ⟨rfl,(Fr.of_new hb5).trans (hfr.mono (fun k _ hk => .inl hk)),av,cs,ivs,svs,HJ3.out.set 0 _, ?_⟩
      simp only [cond_true]
      refine HN3.out.keepP (Nat.le_of_eq (by simp)) (fun q hq => heap_setCell_other w3 ⟨jb,0,none⟩ q _ (fun e => ?_)) (fun b hb hl _ => ⟨hb,heap_setCell_other w3 ⟨jb,0,none⟩ b _ (fun e => ?_)⟩)
      ·have:=(HN3.out.own.lt q hq).1
       dsimp only at e; omega
      ·dsimp only at e
       rcases hb with hb | hb
       ·have:=hP b hb; omega
       ·omega
    ·rw [if_pos (.inr rfl)] at HP
     go_wp2_with fail
     go_ret
     exact LP.out _ _ HP.out hb3
   ·rw [if_pos (.inl hx)] at HP
    have hx':=hx
    clear hx
    have hq1:(x.toList == ({ data:=#[112,97,114] }:ByteArray).toList) = false:=by rw [strEq]; simpa using hx'
    have hq3:(x.toList == [112,97,114]) = false:=by
     rw [show ([112,97,114]:List UInt8) = ({ data:=#[112,97,114] }:ByteArray).toList by kernel_rfl]
     exact hq1
    clear hq1 hx'
    go_wp2_with fail
    go_ret
    exact LP.out _ _ HP.out hb3
  ·have hle:((wl.length:Int) == 2) = false:=by rw [beq_eq_false_iff_ne]; omega
   have hln:((wl.length:Int) != 2) = true:=by rw [bne_iff_ne]; omega
   have HP2:Hid (pLine j s true = (j,130)):=by
    unfold Hid
    rw [HP.out]
    match wl,hl with
    | [],_ => rfl
    | [_],_ => rfl
    | _ :: _ :: _ :: _,_ => rfl
   go_wp2_with fail
   go_ret
   exact LP.out _ _ HP2.out hb3
 ·have heb:(we != 0) = true:=by rw [bne_iff_ne]; exact he
  rw [if_pos he] at HP
  go_wp2_with fail
  go_ret
  exact LP.out _ _ HP.out hb3
end Go.Proofs.YtpkijdkoiecpiaaGreatDoor
