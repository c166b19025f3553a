/-
  Parts of the proof: E10.
-/
import Derived.Test.YtpkijdkoiecpiaaGreatDoorZR40
namespace Go.Proofs.YtpkijdkoiecpiaaGreatDoor
open Go.RowKit
set_option linter.unusedVariables false
set_option linter.unusedSimpArgs false
def lvF:Nat → FuncId
 | 0 => 257
 | 1 => 287
 | 2 => 311
 | 3 => 332
 | 4 => 341
 | 5 => 344
 | _ => 349
theorem reader_all (br:Nat) (E:Int) (N:Nat):∀ (lv:Nat) (st:PSt),st.need lv ≤ N → lv ≤ 6 → ∀ w:World,RdAt w br E st →
  Calls Tryz.prog (lvF lv) #[.pointer (some ⟨br,0,none⟩)] w (PrPost w (fun w st => RdAt w br E st) br (prF E lv st)):=by
 induction N using Nat.strongRecOn with
 | ind N ih =>
  intro lv st hn hlv w h
  unfold PSt.need at hn
  have ih':∀ (lv':Nat) (st':PSt),st'.need lv' < N → lv' ≤ 6 → ∀ w:World,RdAt w br E st' → Calls Tryz.prog (lvF lv') #[.pointer (some ⟨br,0,none⟩)] w (PrPost w (fun w st => RdAt w br E st) br (prF E lv' st')) :=
   fun lv' st' h1 h2 w h3 => ih _ h1 lv' st' (Nat.le_refl _) h2 w h3
  unfold PSt.need at ih'
  match lv,hlv with
  | 0,_ => rw [prF_row E 0 st (by omega)]; exact lv_or (prF E 1) br E st w h (prF_len E 1) (fun st' w' hl hr => ih' 1 st' (by omega) (by omega) w' hr)
  | 1,_ => rw [prF_row E 1 st (by omega)]; exact lv_and (prF E 2) br E st w h (prF_len E 2) (fun st' w' hl hr => ih' 2 st' (by omega) (by omega) w' hr)
  | 2,_ => rw [prF_row E 2 st (by omega)]; exact lv_cmp (prF E 3) br E st w h (prF_len E 3) (fun st' w' hl hr => ih' 3 st' (by omega) (by omega) w' hr)
  | 3,_ => rw [prF_row E 3 st (by omega)]; exact lv_sum (prF E 4) br E st w h (prF_len E 4) (fun st' w' hl hr => ih' 4 st' (by omega) (by omega) w' hr)
  | 4,_ => rw [prF_row E 4 st (by omega)]; exact lv_term (prF E 5) br E st w h (prF_len E 5) (fun st' w' hl hr => ih' 5 st' (by omega) (by omega) w' hr)
  | 5,_ =>
   rw [prF_unary]
   exact lv_unary br E st w h (fun n hlt st' w' hl hr => ih' 5 st' (by omega) (by omega) w' hr) (fun st' w' hl hr => ih' 6 st' (by omega) (by omega) w' hr)
  | 6,_ =>
   have h0:Hid (∀ n,n < st.l.length → PrC 257 br E (prF E 0) n):=fun n hlt st' w' hl hr => ih' 0 st' (by omega) (by omega) w' hr
   rw [prF_one]
   unfold prOne
   by_cases hbad:st.bad.isSome = true
   ·rw [if_pos hbad]; exact one_bad br E st w h hbad
   ·rw [if_neg hbad]
    have hb:st.bad.isSome = false:=by simpa using hbad
    by_cases hnum:st.numB = true
    ·rw [if_pos hnum]; exact one_num br E st w h hb hnum
    ·rw [if_neg hnum]
     have hn2:st.numB = false:=by simpa using hnum
     by_cases h1:st.isB wKey = true
     ·rw [if_pos h1]; exact one_key br E st w h hb hn2 h1
     ·rw [if_neg h1]
      have g1:st.isB wKey = false:=by simpa using h1
      by_cases h2:st.isB wVal = true
      ·rw [if_pos h2]; exact one_val br E st w h hb hn2 g1 h2
      ·rw [if_neg h2]
       have g2:st.isB wVal = false:=by simpa using h2
       by_cases h3:st.isB wAcc = true
       ·rw [if_pos h3]; exact one_acc br E st w h hb hn2 g1 g2 h3
       ·rw [if_neg h3]
        have g3:st.isB wAcc = false:=by simpa using h3
        by_cases h4:st.isB [40] = true
        ·rw [if_pos h4]; exact one_open br E st w h hb hn2 g1 g2 g3 h4 h0
        ·rw [if_neg h4]
         have g4:st.isB [40] = false:=by simpa using h4
         by_cases h5:st.isB wIf = true
         ·rw [if_pos h5]; exact one_if br E st w h hb hn2 g1 g2 g3 g4 h5 h0
         ·rw [if_neg h5]; exact one_fails br E st w h hb hn2 g1 g2 g3 g4 (Lib.hid (by simpa using h5))
  | n + 7,h => omega
theorem or_c (br:Nat) (E:Int) (st:PSt) (w:World) (h:RdAt w br E st) :
  Calls Tryz.prog 257 #[.pointer (some ⟨br,0,none⟩)] w (PrPost w (fun w st => RdAt w br E st) br (prF E 0 st)):=reader_all br E _ 0 st (Nat.le_refl _) (by omega) w h
end Go.Proofs.YtpkijdkoiecpiaaGreatDoor
