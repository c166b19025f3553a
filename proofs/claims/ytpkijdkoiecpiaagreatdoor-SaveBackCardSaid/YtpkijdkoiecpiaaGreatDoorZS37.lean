/-
  Parts of the proof: N0.
-/
import Derived.Lib.SplitLaws
import Derived.Lib.Atoi
import Derived.Test.YtpkijdkoiecpiaaGreatDoorZS1
namespace Go.Proofs.YtpkijdkoiecpiaaGreatDoor
open Go.RowKit
set_option linter.unusedVariables false
set_option linter.unusedSimpArgs false
def ba (l:List UInt8):ByteArray:=⟨l.toArray⟩
theorem ba_list (l:List UInt8):(ba l).data.toList = l:=rfl
theorem ba_of (s:ByteArray):ba s.data.toList = s:=rfl
theorem ba_size (l:List UInt8):(ba l).size = l.length:=by rw [Lib.size_eq]; rfl
theorem ba_ext {s t:ByteArray} (h:s.data.toList = t.data.toList):s = t:=by
 rw [← ba_of s, ← ba_of t,h]
theorem ext_ba (s:ByteArray) (a b:Nat):s.extract a b = ba ((s.data.toList.take b).drop a):=by
 apply ba_ext
 rw [ba_list,Lib.extract_data,List.drop_take]
theorem dstep (s:ByteArray) (pos:Nat) (h:pos < s.size) :
  (bt s pos < 128 ∧ Utf8.decode s pos = (bt s pos,1)) ∨ (128 ≤ (Utf8.decode s pos).1 ∧ ∀ k,pos ≤ k → k < pos + (Utf8.decode s pos).2 → 128 ≤ bt s k):=by
 have hc:∀ k,cont s k = true → 128 ≤ bt s k:=by
  intro k hk
  unfold cont at hk
  simp only [Bool.and_eq_true,decide_eq_true_eq,beq_iff_eq] at hk
  have:=hk.2
  omega
 rw [decode_eq]
 by_cases h1:bt s pos < 128
 ·left
  rw [if_pos h1]
  exact ⟨h1,rfl⟩
 ·right
  rw [if_neg h1]
  have h0:128 ≤ bt s pos:=by omega
  have one:∀ k,pos ≤ k → k < pos + 1 → 128 ≤ bt s k:=by
   intro k a b
   obtain rfl:k = pos:=by omega
   exact h0
  split
  ·rename_i h2
   simp only [Bool.and_eq_true] at h2
   have c1:=hc _ h2.2
   split
   ·rename_i h3
    refine ⟨h3,fun k a b => ?_⟩
    obtain rfl | rfl:k = pos ∨ k = pos + 1:=by dsimp only at b; omega
    ·exact h0
    ·exact c1
   ·exact ⟨by decide,one⟩
  ·split
   ·rename_i h2
    simp only [Bool.and_eq_true] at h2
    have c1:=hc _ h2.1.2
    have c2:=hc _ h2.2
    split
    ·rename_i h3
     simp only [Bool.and_eq_true,decide_eq_true_eq] at h3
     refine ⟨by have:=h3.1; dsimp only; omega,fun k a b => ?_⟩
     obtain rfl | rfl | rfl:k = pos ∨ k = pos + 1 ∨ k = pos + 2:=by dsimp only at b; omega
     ·exact h0
     ·exact c1
     ·exact c2
    ·exact ⟨by decide,one⟩
   ·split
    ·rename_i h2
     simp only [Bool.and_eq_true] at h2
     have c1:=hc _ h2.1.1.2
     have c2:=hc _ h2.1.2
     have c3:=hc _ h2.2
     split
     ·rename_i h3
      simp only [Bool.and_eq_true,decide_eq_true_eq] at h3
      refine ⟨by have:=h3.1; dsimp only; omega,fun k a b => ?_⟩
      obtain rfl | rfl | rfl | rfl:k = pos ∨ k = pos + 1 ∨ k = pos + 2 ∨ k = pos + 3:=by dsimp only at b; omega
      ·exact h0
      ·exact c1
      ·exact c2
      ·exact c3
     ·exact ⟨by decide,one⟩
    ·exact ⟨by decide,one⟩
theorem bt_getElem (s:ByteArray) (k:Nat) (b:UInt8) (h:s.data.toList[k]? = some b):bt s k = b.toNat:=by
 unfold bt
 rw [get_getD]
 simp [List.getD,h]
def cut (s:ByteArray) (pos d:Nat):List UInt8:=(s.data.toList.drop pos).take d
theorem cut_drop (s:ByteArray) (pos d:Nat):s.data.toList.drop pos = cut s pos d ++ s.data.toList.drop (pos + d):=by
 unfold cut
 rw [← List.drop_drop,List.take_append_drop]
theorem cut_take (s:ByteArray) (pos d:Nat):s.data.toList.take (pos + d) = s.data.toList.take pos ++ cut s pos d:=by
 unfold cut
 rw [List.take_add]
theorem cut_one (s:ByteArray) (pos:Nat) (h:pos < s.size) (ha:bt s pos < 128):∃ b:UInt8,cut s pos 1 = [b] ∧ b.toNat = bt s pos:=by
 have hl:pos < s.data.toList.length:=by rw [← Lib.size_eq]; exact h
 refine ⟨s.data.toList[pos], ?_, ?_⟩
 ·unfold cut
  rw [List.drop_eq_getElem_cons hl]
  rfl
 ·rw [bt_getElem s pos _ (List.getElem?_eq_getElem hl)]
theorem cut_high (s:ByteArray) (pos d:Nat) (hk:∀ k,pos ≤ k → k < pos + d → 128 ≤ bt s k):∀ b ∈ cut s pos d,128 ≤ b.toNat:=by
 intro b hb
 unfold cut at hb
 obtain ⟨i,hi,he⟩:=List.getElem_of_mem hb
 have hi':=hi
 rw [List.length_take] at hi
 rw [List.getElem_take,List.getElem_drop] at he
 have hp:s.data.toList[pos + i]? = some b:=by rw [← he]; exact List.getElem?_eq_getElem _
 rw [← bt_getElem s (pos + i) b hp]
 exact hk _ (by omega) (by omega)
theorem cut_rune (s:ByteArray) (pos:Nat) (h:pos < s.size) :
  (∃ b:UInt8,b.toNat < 128 ∧ (Utf8.decode s pos) = (b.toNat,1) ∧ cut s pos (Utf8.decode s pos).2 = [b]) ∨
  (128 ≤ (Utf8.decode s pos).1 ∧ (∀ b ∈ cut s pos (Utf8.decode s pos).2,128 ≤ b.toNat) ∧ cut s pos (Utf8.decode s pos).2 ≠ []):=by
 rcases dstep s pos h with ⟨h1,h2⟩ | ⟨h1,h2⟩
 ·obtain ⟨b,hb,hn⟩:=cut_one s pos h h1
  exact .inl ⟨b,by omega,by rw [h2,hn],by rw [h2]; exact hb⟩
 ·refine .inr ⟨h1,cut_high s pos _ h2, ?_⟩
  have hw:=Lib.decode_width_pos s pos h
  have hl:pos < s.data.toList.length:=by rw [← Lib.size_eq]; exact h
  unfold cut
  intro he
  have:=congrArg List.length he
  rw [List.length_take,List.length_drop,List.length_nil] at this
  omega
def blankU (b:UInt8):Bool:=b == 32 || b == 9
def badR (r:Int):Bool:=r == 65533 || (decide (r < 32) && !(r == 9))
def spl:List UInt8 → List UInt8 → List (List UInt8)
 | cur,[] => bif cur.isEmpty then [] else [cur]
 | cur,b :: l => bif blankU b then (bif cur.isEmpty then spl [] l else cur :: spl [] l) else spl (cur ++ [b]) l
theorem spl_run:∀ (l cur rest:List UInt8),(∀ b ∈ l,blankU b = false) → spl cur (l ++ rest) = spl (cur ++ l) rest
 | [],cur,rest,_ => by rw [List.nil_append,List.append_nil]
 | b :: l,cur,rest,h => by
  rw [List.cons_append,spl,h b (by simp),cond_false,spl_run l (cur ++ [b]) rest (fun c hc => h c (by simp [hc]))]
  simp
def wordsB (s:ByteArray):List ByteArray × Int :=
 if 400 < s.size then ([],3) else bif (runes s).any badR then ([],10) else ((spl [] s.data.toList).map ba,0)
def wAt (s:ByteArray) (pos:Nat) (from_:Int) (acc:List ByteArray):List ByteArray × Int :=
 bif (runesAt s pos).any badR then ([],10) else (acc ++ (spl (if from_ < 0 then [] else (s.data.toList.take pos).drop from_.toNat) (s.data.toList.drop pos)).map ba,0)
theorem wAt_start (s:ByteArray) (h : ¬ 400 < s.size):wordsB s = wAt s 0 (-1) []:=by
 unfold wordsB wAt
 rw [if_neg h,if_pos (by omega),List.nil_append,List.drop_zero]
 rfl
theorem wAt_bad (s:ByteArray) (pos:Nat) (from_:Int) (acc:List ByteArray) (h:pos < s.size) (hb:badR ((Utf8.decode s pos).1:Int) = true):wAt s pos from_ acc = ([],10):=by
 unfold wAt
 rw [runesAt_step s pos h,List.any_cons,hb,Bool.true_or,cond_true]
theorem wAt_any (s:ByteArray) (pos:Nat) (h:pos < s.size) (hb:badR ((Utf8.decode s pos).1:Int) = false):(runesAt s pos).any badR = (runesAt s (pos + (Utf8.decode s pos).2)).any badR:=by
 rw [runesAt_step s pos h,List.any_cons,hb,Bool.false_or]
theorem isBlank {b:UInt8} (h:(b.toNat:Int) = 32 ∨ (b.toNat:Int) = 9):blankU b = true:=by
 unfold blankU
 have:b = 32 ∨ b = 9:=by
  rcases h with h | h
  ·exact .inl (UInt8.toNat_inj.1 (by show b.toNat = 32; omega))
  ·exact .inr (UInt8.toNat_inj.1 (by show b.toNat = 9; omega))
 rcases this with rfl | rfl <;> rfl
theorem noBlank {b:UInt8} (h:b.toNat ≠ 32) (k:b.toNat ≠ 9):blankU b = false:=by
 unfold blankU
 rw [Bool.or_eq_false_iff,beq_eq_false_iff_ne,beq_eq_false_iff_ne]
 exact ⟨fun e => h (by rw [e]; rfl),fun e => k (by rw [e]; rfl)⟩
theorem wAt_blank_out (s:ByteArray) (pos:Nat) (from_:Int) (acc:List ByteArray) (h:pos < s.size) (hb:badR ((Utf8.decode s pos).1:Int) = false)
  (hr:((Utf8.decode s pos).1:Int) = 32 ∨ ((Utf8.decode s pos).1:Int) = 9) (hf:from_ < 0):wAt s pos from_ acc = wAt s (pos + (Utf8.decode s pos).2) (-1) acc:=by
 unfold wAt
 rw [wAt_any s pos h hb]
 rcases cut_rune s pos h with ⟨b,h1,h2,h3⟩ | ⟨h1,_⟩
 ·rw [h2] at hr
  rw [cut_drop s pos (Utf8.decode s pos).2,h3,if_pos hf,if_pos (by omega),List.singleton_append,spl,isBlank hr,cond_true,List.isEmpty_nil,cond_true]
 ·omega
theorem wAt_blank_in (s:ByteArray) (pos:Nat) (from_:Int) (acc:List ByteArray) (h:pos < s.size) (hb:badR ((Utf8.decode s pos).1:Int) = false)
  (hr:((Utf8.decode s pos).1:Int) = 32 ∨ ((Utf8.decode s pos).1:Int) = 9) (hf : ¬ from_ < 0) (hp:from_.toNat < pos) :
  wAt s pos from_ acc = wAt s (pos + (Utf8.decode s pos).2) (-1) (acc ++ [s.extract from_.toNat pos]):=by
 unfold wAt
 rw [wAt_any s pos h hb]
 rcases cut_rune s pos h with ⟨b,h1,h2,h3⟩ | ⟨h1,_⟩
 ·rw [h2] at hr
  have hne:((s.data.toList.take pos).drop from_.toNat).isEmpty = false:=by
   rw [List.isEmpty_eq_false_iff]
   intro he
   have:=congrArg List.length he
   rw [List.length_drop,List.length_take, ← Lib.size_eq,List.length_nil] at this
   omega
  rw [cut_drop s pos (Utf8.decode s pos).2,h3,if_neg hf,if_pos (by omega),List.singleton_append,spl,isBlank hr,cond_true,hne,cond_false,List.map_cons,ext_ba]
  simp
 ·omega
theorem wAt_first (s:ByteArray) (pos:Nat) (from_:Int) (acc:List ByteArray) (h:pos < s.size) (hb:badR ((Utf8.decode s pos).1:Int) = false)
  (hr:((Utf8.decode s pos).1:Int) ≠ 32) (hr2:((Utf8.decode s pos).1:Int) ≠ 9) (hf:from_ < 0):wAt s pos from_ acc = wAt s (pos + (Utf8.decode s pos).2) (pos:Int) acc:=by
 have hcut:∀ b ∈ cut s pos (Utf8.decode s pos).2,blankU b = false:=by
  rcases cut_rune s pos h with ⟨b,h1,h2,h3⟩ | ⟨h1,h2,_⟩
  ·intro c hc
   rw [h3,List.mem_singleton] at hc
   subst hc
   rw [h2] at hr hr2
   exact noBlank (by dsimp only at hr; omega) (by dsimp only at hr2; omega)
  ·intro c hc
   have:=h2 c hc
   exact noBlank (by omega) (by omega)
 unfold wAt
 have e1:List.drop pos (List.take pos s.data.toList) = []:=List.drop_eq_nil_of_le (by rw [List.length_take]; omega)
 rw [wAt_any s pos h hb,if_pos hf,if_neg (by omega),Int.toNat_natCast,cut_take,List.drop_append_of_le_length (by rw [List.length_take, ← Lib.size_eq]; omega),e1,List.nil_append]
 conv => lhs; rw [cut_drop s pos (Utf8.decode s pos).2]
 rw [spl_run _ [] _ hcut,List.nil_append]
theorem wAt_more (s:ByteArray) (pos:Nat) (from_:Int) (acc:List ByteArray) (h:pos < s.size) (hb:badR ((Utf8.decode s pos).1:Int) = false)
  (hr:((Utf8.decode s pos).1:Int) ≠ 32) (hr2:((Utf8.decode s pos).1:Int) ≠ 9) (hf : ¬ from_ < 0) (hp:from_.toNat ≤ pos):wAt s pos from_ acc = wAt s (pos + (Utf8.decode s pos).2) from_ acc:=by
 have hcut:∀ b ∈ cut s pos (Utf8.decode s pos).2,blankU b = false:=by
  rcases cut_rune s pos h with ⟨b,h1,h2,h3⟩ | ⟨h1,h2,_⟩
  ·intro c hc
   rw [h3,List.mem_singleton] at hc
   subst hc
   rw [h2] at hr hr2
   exact noBlank (by dsimp only at hr; omega) (by dsimp only at hr2; omega)
  ·intro c hc
   have:=h2 c hc
   exact noBlank (by omega) (by omega)
 unfold wAt
 rw [wAt_any s pos h hb,if_neg hf,if_neg hf,cut_take,List.drop_append_of_le_length (by rw [List.length_take, ← Lib.size_eq]; omega)]
 conv => lhs; rw [cut_drop s pos (Utf8.decode s pos).2]
 rw [spl_run _ _ _ hcut]
theorem wAt_end_out (s:ByteArray) (pos:Nat) (from_:Int) (acc:List ByteArray) (h:s.size ≤ pos) (hf:from_ < 0):wAt s pos from_ acc = (acc,0):=by
 unfold wAt
 rw [runesAt_end s pos (by omega),List.any_nil,cond_false,if_pos hf,List.drop_eq_nil_of_le (by rw [← Lib.size_eq]; omega)]
 simp [spl]
theorem wAt_end_in (s:ByteArray) (pos:Nat) (from_:Int) (acc:List ByteArray) (h:s.size ≤ pos) (hf : ¬ from_ < 0) (hp:from_.toNat < s.size):wAt s pos from_ acc = (acc ++ [s.extract from_.toNat s.size],0):=by
 unfold wAt
 have hl:=Lib.size_eq s
 have hne:((s.data.toList).drop from_.toNat).isEmpty = false:=by
  rw [List.isEmpty_eq_false_iff]
  intro he
  have:=congrArg List.length he
  rw [List.length_drop, ← Lib.size_eq,List.length_nil] at this
  omega
 have e1:s.data.toList.drop pos = []:=List.drop_eq_nil_of_le (by omega)
 have e2:s.data.toList.take pos = s.data.toList:=List.take_of_length_le (by omega)
 have e3:s.data.toList.take s.size = s.data.toList:=List.take_of_length_le (by omega)
 rw [runesAt_end s pos (by omega),List.any_nil,cond_false,if_neg hf,e1,e2,spl,hne,cond_false,ext_ba,e3]
 rfl
def aheadL (s:ByteArray):List UInt8:=s.data.toList.takeWhile (fun b => !(b == 58))
def hasColon (s:ByteArray):Bool:=s.data.toList.any (fun b => b == 58)
def behindL (s:ByteArray):List UInt8:=(s.data.toList.dropWhile (fun b => !(b == 58))).tail
def noColon (s:ByteArray) (pos:Nat):Prop:=∀ b ∈ s.data.toList.take pos,b ≠ 58
theorem noColon_zero (s:ByteArray):noColon s 0:=by intro b hb; simp at hb
theorem noColon_step (s:ByteArray) (pos:Nat) (h:pos < s.size) (hr:((Utf8.decode s pos).1:Int) ≠ 58) (hn:noColon s pos):noColon s (pos + (Utf8.decode s pos).2):=by
 intro b hb
 rw [cut_take,List.mem_append] at hb
 rcases hb with hb | hb
 ·exact hn b hb
 ·rcases cut_rune s pos h with ⟨c,h1,h2,h3⟩ | ⟨h1,h2,_⟩
  ·rw [h3,List.mem_singleton] at hb
   subst hb
   rw [h2] at hr
   rintro rfl
   exact hr rfl
  ·have:=h2 b hb
   rintro rfl
   exact absurd this (by decide)
theorem colon_at (s:ByteArray) (pos:Nat) (h:pos < s.size) (hr:((Utf8.decode s pos).1:Int) = 58) (hn:noColon s pos) :
  hasColon s = true ∧ s.extract 0 pos = ba (aheadL s) ∧ s.extract (pos + 1) s.size = ba (behindL s):=by
 rcases cut_rune s pos h with ⟨b,h1,h2,h3⟩ | ⟨h1,_⟩
 ·rw [h2] at hr
  obtain rfl:b = 58:=UInt8.toNat_inj.1 (by show b.toNat = 58; dsimp only at hr; omega)
  have hs:s.data.toList = s.data.toList.take pos ++ (58 :: s.data.toList.drop (pos + 1)):=by
   conv => lhs; rw [← List.take_append_drop pos s.data.toList,cut_drop s pos (Utf8.decode s pos).2,h3]
   rw [h2]; rfl
  have hp:∀ b ∈ s.data.toList.take pos,(!(b == 58)) = true:=by
   intro c hc
   have:=hn c hc
   simpa using this
  refine ⟨?_, ?_, ?_⟩
  ·unfold hasColon
   rw [hs]
   simp
  ·rw [ext_ba,List.drop_zero]
   unfold aheadL
   conv => rhs; rw [hs,List.takeWhile_append_of_pos hp]
   simp
  ·rw [ext_ba,List.take_of_length_le (by rw [← Lib.size_eq]; omega)]
   unfold behindL
   conv => rhs; rw [hs,List.dropWhile_append_of_pos hp]
   simp
 ·omega
theorem colon_none (s:ByteArray) (pos:Nat) (h:s.size ≤ pos) (hn:noColon s pos):hasColon s = false ∧ s = ba (aheadL s):=by
 have hp:∀ b ∈ s.data.toList,(!(b == 58)) = true:=by
  intro c hc
  have:=hn c (by rw [List.take_of_length_le (by rw [← Lib.size_eq]; omega)]; exact hc)
  simpa using this
 constructor
 ·unfold hasColon
  rw [List.any_eq_false]
  intro b hb
  simpa using hp b hb
 ·apply ba_ext
  rw [ba_list]
  unfold aheadL
  have:=List.takeWhile_append_of_pos (l₂:=[]) hp
  rw [List.append_nil] at this
  rw [this]; simp
def digU (b:UInt8):Bool:=decide (48 ≤ b.toNat) && decide (b.toNat ≤ 57)
def valU (l:List UInt8):Nat:=l.foldl (fun n b => n * 10 + (b.toNat - 48)) 0
def numB (s:ByteArray) (most:Nat):Int × Bool :=
 if s.data.toList.all digU = true ∧ 0 < s.size ∧ s.size ≤ most then ((valU s.data.toList:Int),true) else (0,false)
def allDig (s:ByteArray) (pos:Nat):Prop:=∀ b ∈ s.data.toList.take pos,digU b = true
theorem allDig_zero (s:ByteArray):allDig s 0:=by intro b hb; simp at hb
theorem allDig_step (s:ByteArray) (pos:Nat) (h:pos < s.size) (h1 : ¬ ((Utf8.decode s pos).1:Int) < 48) (h2 : ¬ 57 < ((Utf8.decode s pos).1:Int)) (hn:allDig s pos):allDig s (pos + (Utf8.decode s pos).2):=by
 intro b hb
 rw [cut_take,List.mem_append] at hb
 rcases hb with hb | hb
 ·exact hn b hb
 ·rcases cut_rune s pos h with ⟨c,k1,k2,k3⟩ | ⟨k1,_⟩
  ·rw [k3,List.mem_singleton] at hb
   subst hb
   rw [k2] at h1 h2
   unfold digU
   rw [Bool.and_eq_true,decide_eq_true_eq,decide_eq_true_eq]
   dsimp only at h1 h2
   omega
  ·omega
theorem num_bad (s:ByteArray) (most pos:Nat) (h:pos < s.size) (hb:((Utf8.decode s pos).1:Int) < 48 ∨ 57 < ((Utf8.decode s pos).1:Int)):numB s most = (0,false):=by
 unfold numB
 rw [if_neg]
 rintro ⟨ha,_⟩
 rw [List.all_eq_true] at ha
 have hmem:∀ b ∈ cut s pos (Utf8.decode s pos).2,digU b = true:=fun b hb => ha b (List.mem_of_mem_drop (List.mem_of_mem_take hb))
 rcases cut_rune s pos h with ⟨c,k1,k2,k3⟩ | ⟨k1,k2,k3⟩
 ·have:=hmem c (by rw [k3]; simp)
  unfold digU at this
  rw [Bool.and_eq_true,decide_eq_true_eq,decide_eq_true_eq] at this
  rw [k2] at hb
  dsimp only at hb
  omega
 ·obtain ⟨c,hc⟩:=List.exists_mem_of_ne_nil _ k3
  have:=hmem c hc
  have:=k2 c hc
  unfold digU at *
  rw [Bool.and_eq_true,decide_eq_true_eq,decide_eq_true_eq] at *
  omega
theorem allDig_all (s:ByteArray) (pos:Nat) (h:s.size ≤ pos) (hn:allDig s pos):s.data.toList.all digU = true:=by
 rw [List.all_eq_true]
 intro b hb
 exact hn b (by rw [List.take_of_length_le (by rw [← Lib.size_eq]; omega)]; exact hb)
theorem num_long (s:ByteArray) (most:Nat) (h:s.size = 0 ∨ most < s.size):numB s most = (0,false):=by
 unfold numB
 rw [if_neg (by omega)]
theorem num_good (s:ByteArray) (most:Nat) (ha:s.data.toList.all digU = true) (h0:0 < s.size) (h1:s.size ≤ most):numB s most = ((valU s.data.toList:Int),true):=by
 unfold numB
 rw [if_pos ⟨ha,h0,h1⟩]
theorem decFrom_dig:∀ (l:List UInt8) (n:Nat),l.all digU = true → Lib.decFrom n l = some (l.foldl (fun n b => n * 10 + (b.toNat - 48)) n)
 | [],n,_ => rfl
 | b :: l,n,h => by
  rw [List.all_cons,Bool.and_eq_true] at h
  have hd:Lib.digitVal b = some (b.toNat - 48):=by
   have:=h.1
   unfold digU at this
   rw [Bool.and_eq_true,decide_eq_true_eq,decide_eq_true_eq] at this
   unfold Lib.digitVal
   rw [if_pos this]
  rw [Lib.decFrom,hd]
  exact decFrom_dig l _ h.2
theorem atoi_dig (l:List UInt8) (h:l.all digU = true) (hne:l ≠ []):Lib.atoi l = some (valU l:Int):=by
 cases l with
 | nil => exact absurd rfl hne
 | cons b r =>
  have hb:=h
  rw [List.all_cons,Bool.and_eq_true] at hb
  have hd:=hb.1
  unfold digU at hd
  rw [Bool.and_eq_true,decide_eq_true_eq,decide_eq_true_eq] at hd
  have h1:(b == 45) = false:=by rw [beq_eq_false_iff_ne]; rintro rfl; exact absurd hd.1 (by decide)
  have h2:(b == 43) = false:=by rw [beq_eq_false_iff_ne]; rintro rfl; exact absurd hd.1 (by decide)
  rw [Lib.atoi,h1,h2]
  simp only [Bool.false_eq_true,if_false]
  have e:Lib.decNat (b :: r) = some (valU (b :: r)):=decFrom_dig (b :: r) 0 h
  rw [e]
  rfl
theorem valU_two (l:List UInt8) (h:l.all digU = true) (hl:l.length ≤ 2):valU l ≤ 99:=by
 have hd:∀ b ∈ l,b.toNat - 48 ≤ 9:=by
  intro b hb
  have:=List.all_eq_true.1 h b hb
  unfold digU at this
  rw [Bool.and_eq_true,decide_eq_true_eq,decide_eq_true_eq] at this
  omega
 match l,hl with
 | [],_ => simp [valU]
 | [a],_ => have:=hd a (by simp); simp [valU]; omega
 | [a,b],_ => have:=hd a (by simp); have:=hd b (by simp); simp [valU]; omega
def nlB:ByteArray:=⟨#[10]⟩
def linesB (s:ByteArray):List ByteArray:=Lib.splitB nlB 0 (Lib.countB s nlB) s
end Go.Proofs.YtpkijdkoiecpiaaGreatDoor
