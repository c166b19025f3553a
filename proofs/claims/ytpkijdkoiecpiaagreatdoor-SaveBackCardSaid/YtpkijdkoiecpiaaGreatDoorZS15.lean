/-
  Parts of the proof: W1 T8 R1.
-/
import Derived.Test.YtpkijdkoiecpiaaGreatDoorChecked
import Derived.Test.YtpkijdkoiecpiaaGreatDoorZS1
namespace Go.Proofs.YtpkijdkoiecpiaaGreatDoor
open Go.RowKit
set_option linter.unusedVariables false
set_option linter.unusedSimpArgs false
set_option maxHeartbeats 400000 in
theorem letter_c (r:Int) (w:World) :
  Calls Tryz.prog 213 #[.int .i32 r] w fun e w' => e = .returned (.bool (letterB r)) ∧ w = w':=by
 go_enter Tryz.func213,Tryz.ntmps213
 go_wp2
 all_goals
  go_ret
  exact ⟨ret_bool (by unfold letterB; rw [Bool.eq_iff_iff]; simp; omega),rfl⟩
set_option maxHeartbeats 400000 in
theorem later_c (r:Int) (w:World) :
  Calls Tryz.prog 214 #[.int .i32 r] w fun e w' => e = .returned (.bool (laterB r)) ∧ w = w':=by
 cases hb:letterB r
 all_goals
  have HB:=Lib.hid hb
  clear hb
  go_enter Tryz.func214,Tryz.ntmps214
  go_wp2_with (go_at_call 213; refine (letter_c _ _).mono ?_; rintro e w' ⟨rfl,rfl⟩; rw [HB.out])
  all_goals
   go_ret
   exact ⟨ret_bool (by unfold laterB; rw [HB.out,Bool.eq_iff_iff]; simp; try omega),rfl⟩
set_option maxHeartbeats 400000 in
theorem Name_c (s:ByteArray) (w:World) (hs:s.size ≤ maxLen) :
    Calls Tryz.prog 178 #[.string s] w fun e w' => e = .returned (.bool (nameB s)) ∧ ∃ pos,w' = w.iter s pos:=by
  unfold maxLen at hs
  have h0:(runesAt s 0).length ≤ s.size:=by have:=runesAt_length s 0; omega
  go_enter Tryz.func178,Tryz.ntmps178
  go_wp2
  go_loopw [3] (fun n wr => ∃ (pos k:Nat),wr = w.iter s pos ∧ n = .int .i64 k ∧ k + (runesAt s pos).length ≤ s.size ∧ nameGo k (runesAt s pos) = nameB s) (fun _ wr => s.size - wr.iterPos w.heap.size)
  case atStart => exact ⟨0,0,rfl,rfl,by omega,rfl⟩
  case round =>
    obtain ⟨pos,k,rfl,rfl,hk,hg⟩:=hrel
    by_cases hp:pos < s.size
    · have hnx:∀ ty,(Instr.next (.pointer (some ⟨w.heap.size,0,none⟩)) true ty).run Tryz.prog (w.iter s pos) = _:=fun ty => run_next_any w s pos ty hp
      have hwd:=Lib.decode_width_pos s pos hp
      rw [runesAt_step s pos hp] at hg hk
      simp only [nameGo] at hg
      simp only [List.length_cons] at hk
      have HG:=Lib.hid hg
      clear hg
      go_wp2_with (first | (go_at_call 213; refine (letter_c _ _).mono ?_; rintro e w' ⟨rfl,rfl⟩) | (go_at_call 214; refine (later_c _ _).mono ?_; rintro e w' ⟨rfl,rfl⟩))
      all_goals first
        | (go_ret; exact ⟨ret_bool (by rw [← HG.out,if_pos (by simp_all)]),_,rfl⟩)
        | (go_roundw
           case rel => exact ⟨_,k + 1,rfl,by first | go_num | simp_all,by omega,by rw [← HG.out,if_neg (by simp_all)]⟩
           case measure => simp; omega)
    · have hnx:∀ ty,(Instr.next (.pointer (some ⟨w.heap.size,0,none⟩)) true ty).run Tryz.prog (w.iter s pos) = _:=fun ty => run_next_end w s pos ty hp
      rw [runesAt_end s pos hp] at hg
      simp only [nameGo] at hg
      have HG:=Lib.hid hg
      clear hg
      go_wp2
      all_goals (go_ret; exact ⟨ret_bool (by rw [← HG.out,Bool.eq_iff_iff]; simp; omega),_,rfl⟩)
theorem toksCells_at (l:List Tok) (k:Nat) (h:k < l.length):(toksCells l)[k * 4]? = some (.int .u8 (l[k]'h).kind) ∧ (toksCells l)[k * 4 + 1]? = some (.string (l[k]'h).text) ∧
  (toksCells l)[k * 4 + 2]? = some (.int .i64 (l[k]'h).n) ∧ (toksCells l)[k * 4 + 3]? = some (.int .i64 (l[k]'h).at_):=by
 induction l generalizing k with
 | nil => simp at h
 | cons t l ih =>
  cases k with
  | zero => simp [toksCells,Tok.cells]
  | succ k =>
   have hk:k < l.length:=by simpa using h
   have e:toksCells (t :: l) = .int .u8 t.kind :: .string t.text :: .int .i64 t.n :: .int .i64 t.at_ :: toksCells l:=rfl
   rw [e,show (k + 1) * 4 = k * 4 + 1 + 1 + 1 + 1 by omega]
   simp only [List.getElem?_cons_succ,List.getElem_cons_succ,Nat.add_right_comm _ 1]
   exact ih k hk
theorem Sl.tok {w:World} {B n:Nat} {v:Value} {l:List Tok} (h:Sl w B 4 v n (toksCells l)) (k:Nat) (hk:k < n) :
  ∃ b off cap,v = .slice (some ⟨b,off,none⟩) n cap ∧ ∃ hl:k < l.length,w.cell? ⟨b,off + k * 4,none⟩ = some (.int .u8 (l[k]'hl).kind) ∧ w.cell? ⟨b,off + k * 4 + 1,none⟩ = some (.string (l[k]'hl).text) ∧
   w.cell? ⟨b,off + k * 4 + 2,none⟩ = some (.int .i64 (l[k]'hl).n) ∧ w.cell? ⟨b,off + k * 4 + 3,none⟩ = some (.int .i64 (l[k]'hl).at_):=by
 obtain ⟨h1,a,cap,hv,h2,h3,h4⟩:=h
 rw [toksCells_length] at h1
 rcases h4 with h4 | ⟨b,off,rfl,hb,hc⟩
 ·omega
 ·have hl:k < l.length:=by omega
  obtain ⟨e0,e1,e2,e3⟩:=toksCells_at l k hl
  refine ⟨b,off,cap,hv,hl, ?_, ?_, ?_, ?_⟩
  ·rw [hc _ (by omega)]; exact e0
  ·rw [Nat.add_assoc,hc _ (by omega)]; exact e1
  ·rw [Nat.add_assoc,hc _ (by omega)]; exact e2
  ·rw [Nat.add_assoc,hc _ (by omega)]; exact e3
theorem Sl.rest {w:World} {B:Nat} {t:Tok} {l:List Tok} {b off cap:Nat} (h:Sl w B 4 (.slice (some ⟨b,off,none⟩) (l.length + 1) cap) (l.length + 1) (toksCells (t :: l))) {A:Option Addr} (hA:0 < l.length → A = some ⟨b,off + 4,none⟩) :
  Sl w B 4 (.slice A l.length (cap - 1)) l.length (toksCells l):=by
 obtain ⟨h1,a,cap',hv,h2,h3,h4⟩:=h
 simp only [Value.slice.injEq] at hv
 obtain ⟨rfl,_,rfl⟩:=hv
 refine ⟨toksCells_length l,_,_,rfl,by omega,by omega, ?_⟩
 by_cases h0:l.length = 0
 ·exact .inl h0
 ·rcases h4 with h4 | ⟨b',off',e,hb,hc⟩
  ·omega
  ·simp only [Option.some.injEq,Addr.mk.injEq,and_true] at e
   obtain ⟨rfl,rfl⟩:=e
   refine .inr ⟨b,off + 4,hA (by omega),hb,fun j hj => ?_⟩
   have:=hc (4 + j) (by omega)
   rw [← Nat.add_assoc] at this
   rw [this]
   show (t.cells ++ toksCells l)[4 + j]? = _
   rw [List.getElem?_append_right (by simp [Tok.cells]),show t.cells.length = 4 from rfl,Nat.add_sub_cancel_left]
theorem owns_apart {w:World} {b1 b2:Nat} {e1 e2:TypeId} {s1 s2 n1 n2:Nat} {v1 v2:Value} {x1 x2:List Value} (h1:w.ownsRow b1 e1 s1 v1 n1 x1) (h2:w.ownsRow b2 e2 s2 v2 n2 x2) (he:e1 ≠ e2) :
  v2.ownBlock = none ∨ v2.ownBlock ≠ v1.ownBlock:=by
 rcases h2.2 with ⟨rfl,_⟩ | ⟨g2,c2,cur2,rfl,_,hg2,_⟩
 ·exact .inl rfl
 ·rcases h1.2 with ⟨rfl,_⟩ | ⟨g1,c1,cur1,rfl,_,hg1,_⟩
  ·exact .inr (by simp [Value.ownBlock])
  ·refine .inr (fun h => ?_)
   simp only [Value.ownBlock,Option.some.injEq] at h
   rw [h,hg1] at hg2
   simp only [Option.some.injEq,Obj.cells.injEq] at hg2
   exact he hg2.2.1
end Go.Proofs.YtpkijdkoiecpiaaGreatDoor
