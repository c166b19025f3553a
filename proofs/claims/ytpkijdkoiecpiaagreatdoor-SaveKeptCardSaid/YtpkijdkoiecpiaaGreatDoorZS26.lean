/-
  Parts of the proof: CB C3 CE O2 M1 M2 M3 CA O3 O4.
-/
import Derived.Test.YtpkijdkoiecpiaaGreatDoorZS1
import Derived.Test.YtpkijdkoiecpiaaGreatDoorZS2
import Derived.Test.YtpkijdkoiecpiaaGreatDoorZS12
import Derived.Test.YtpkijdkoiecpiaaGreatDoorZS18
import Derived.Test.YtpkijdkoiecpiaaGreatDoorZS22
import Derived.Test.YtpkijdkoiecpiaaGreatDoorZS25
namespace Go.Proofs.YtpkijdkoiecpiaaGreatDoor
open Go.RowKit
set_option linter.unusedVariables false
set_option linter.unusedSimpArgs false
theorem num_bstr (l:List UInt8):Rd.num ⟨bstr l,0⟩ = ((tkGo 0 0 l).1,⟨bstr (l.drop (tkGo 0 0 l).2.1.toNat),(tkGo 0 0 l).2.2⟩):=by
 unfold Rd.num Rd.cut
 rw [if_pos rfl]
 dsimp only
 rw [takeS_bstr,cut_bstr]
structure Rds {α:Type} (f:Rd → α × Rd) (B:List UInt8) (a:α):Prop where
 ok:∀ rest:List UInt8,f ⟨bstr (B ++ rest),0⟩ = (a,⟨bstr rest,0⟩)
 short:∀ k,k < B.length → (f ⟨bstr (B.take k),0⟩).2.e = 20
def Stk {α:Type} (f:Rd → α × Rd):Prop:=∀ p,p.e ≠ 0 → (f p).2.e = p.e
def Bck {α:Type} (f:Rd → α × Rd) (b:α → List UInt8) (Q:α → Prop):Prop :=
 ∀ p,(f p).2.e = 0 → p.e = 0 ∧ Q (f p).1 ∧ p.s.data.toList = b (f p).1 ++ (f p).2.s.data.toList
def rdBnd {α β:Type} (f:Rd → α × Rd) (g:α → Rd → β × Rd):Rd → β × Rd:=fun p => g (f p).1 (f p).2
def rdRet {α:Type} (a:α):Rd → α × Rd:=fun p => (a,p)
theorem Rds.bnd {α β:Type} {f:Rd → α × Rd} {g:α → Rd → β × Rd} {B C:List UInt8} {a:α} {c:β} (h:Rds f B a) (k:Rds (g a) C c) (hs:∀ a,Stk (g a)):Rds (rdBnd f g) (B ++ C) c where
 ok rest:=by
  unfold rdBnd
  rw [List.append_assoc,h.ok]
  exact k.ok rest
 short n hn:=by
  unfold rdBnd
  by_cases hb:n < B.length
  ·rw [List.take_append_of_le_length (Nat.le_of_lt hb)]
   have e:=h.short n hb
   rw [hs _ _ (by rw [e]; decide)]
   exact e
  ·rw [List.take_append,List.take_of_length_le (by omega:B.length ≤ n),h.ok]
   exact k.short _ (by rw [List.length_append] at hn; omega)
theorem Rds.ret {α:Type} (a:α):Rds (rdRet a) [] a:=⟨fun rest => rfl,fun k hk => absurd hk (Nat.not_lt_zero _)⟩
theorem Stk.bnd {α β:Type} {f:Rd → α × Rd} {g:α → Rd → β × Rd} (h:Stk f) (k:∀ a,Stk (g a)):Stk (rdBnd f g):=fun p hp => by
 unfold rdBnd
 have e:=h p hp
 rw [k _ _ (by rw [e]; exact hp)]
 exact e
theorem Stk.ret {α:Type} (a:α):Stk (rdRet a):=fun p hp => rfl
theorem Rd.fail_of {p:Rd} (h:p.e ≠ 0) (why:Int):p.fail why = p:=by unfold Rd.fail; rw [if_neg h]
theorem Rd.num_err {p:Rd} (h:p.e ≠ 0):p.num = (0,p):=by unfold Rd.num; rw [if_neg h]
theorem num_stk:Stk Rd.num:=fun p hp => by rw [Rd.num_err hp]
theorem many_stk (m:Int):Stk (Rd.many m):=fun p hp => by
 unfold Rd.many
 rw [Rd.num_err hp]
 split
 ·show (p.fail 3).e = p.e; rw [Rd.fail_of hp]
 ·rfl
theorem small_stk:Stk Rd.small:=fun p hp => by
 unfold Rd.small
 rw [Rd.num_err hp]
 dsimp only
 split
 ·rw [Rd.fail_of hp]
 ·rfl
theorem text_stk:Stk Rd.text:=fun p hp => by
 unfold Rd.text
 rw [if_neg hp]
theorem reps_stk {α:Type} {f:Rd → α × Rd} (h:Stk f):∀ m,Stk (reps f m)
 | 0,p,hp => rfl
 | m + 1,p,hp => by
  simp only [reps]
  have e:=h p hp
  rw [reps_stk h m _ (by rw [e]; exact hp)]
  exact e
theorem ex_succ (k:Nat):Rd.ex (k + 1) = rdBnd Rd.small fun o => rdBnd Rd.num fun n => rdBnd (Rd.many 3) fun m => rdBnd (reps (Rd.ex k) m.toNat) fun l => rdRet (.mk o n l):=rfl
theorem ex_stk:∀ k,Stk (Rd.ex k)
 | 0 => fun p hp => by show (p.fail 3).e = _; rw [Rd.fail_of hp]
 | k + 1 => by
  rw [ex_succ]
  exact small_stk.bnd fun _ => num_stk.bnd fun _ => (many_stk 3).bnd fun _ => (reps_stk (ex_stk k) _).bnd fun _ => Stk.ret _
theorem nd_eq:Rd.nd = rdBnd Rd.text fun u => rdBnd Rd.small fun kd => rdBnd Rd.num fun n => rdBnd (Rd.many 12) fun m => rdBnd (reps Rd.num m.toNat) fun ins => rdBnd (Rd.ex 17) fun x => rdRet (⟨u,kd,ins,x,n⟩:Nd):=rfl
theorem nd_stk:Stk Rd.nd:=by
 rw [nd_eq]
 exact text_stk.bnd fun _ => small_stk.bnd fun _ => num_stk.bnd fun _ => (many_stk 12).bnd fun _ => (reps_stk num_stk _).bnd fun _ => (ex_stk 17).bnd fun _ => Stk.ret _
theorem takeNds_stk:∀ m,Stk (takeNds m)
 | 0,p,hp => rfl
 | m + 1,p,hp => by
  simp only [takeNds]
  have e:=nd_stk p hp
  rw [if_pos (by rw [e]; exact hp)]
  exact e
theorem num_rds (n:Int) (h1 : -9223372036854775808 ≤ n) (h2:n ≤ 9223372036854775807):Rds Rd.num (putN n) n where
 ok rest:=by
  rw [num_bstr,take_put n h1 h2 rest]
  simp
 short k hk:=by
  rw [num_bstr,take_short n h1 h2 k hk]
theorem many_rds (m n:Int) (h0:0 ≤ n) (h1:n ≤ m) (hm:m ≤ 1000):Rds (Rd.many m) (putN n) n where
 ok rest:=by
  unfold Rd.many
  rw [(num_rds n (by omega) (by omega)).ok rest,if_neg (by dsimp only; omega)]
 short k hk:=by
  have e:=(num_rds n (by omega) (by omega)).short k hk
  unfold Rd.many
  split
  ·show (Rd.fail _ 3).e = 20
   rw [Rd.fail_of (by rw [e]; decide)]
   exact e
  ·exact e
theorem small_rds (n:Int) (h0:0 ≤ n) (h1:n ≤ 255):Rds Rd.small (putN n) n where
 ok rest:=by
  unfold Rd.small
  rw [(num_rds n (by omega) (by omega)).ok rest]
  dsimp only
  rw [if_neg (by omega),Int.emod_eq_of_lt h0 (by omega)]
 short k hk:=by
  have e:=(num_rds n (by omega) (by omega)).short k hk
  unfold Rd.small
  dsimp only
  split
  ·rw [Rd.fail_of (by rw [e]; decide)]
   exact e
  ·exact e
theorem text_bstr (l:List UInt8):Rd.text ⟨bstr l,0⟩ = ((takeT (bstr l)).1,⟨bstr (l.drop (takeT (bstr l)).2.1.toNat),(takeT (bstr l)).2.2⟩):=by
 unfold Rd.text Rd.cut
 rw [if_pos rfl]
 dsimp only
 rw [cut_bstr]
theorem text_rds (u:ByteArray) (hu:u.size ≤ 65536):Rds Rd.text (txtL u) u where
 ok rest:=by
  have hl:=Lib.size_eq u
  have e:takeS (bstr (txtL u ++ rest)) = ((u.size:Int),((putN (u.size:Int)).length:Int),0):=by
   rw [takeS_bstr]
   unfold txtL
   rw [List.append_assoc]
   exact take_put _ (by omega) (by omega) _
  have hz:(bstr (txtL u ++ rest)).size = (putN (u.size:Int)).length + u.size + rest.length:=by
   rw [bstr_size]; unfold txtL; simp only [List.length_append]; omega
  have e2:takeT (bstr (txtL u ++ rest)) = (u,(((putN (u.size:Int)).length + u.size:Nat):Int),0):=by
   unfold takeT
   rw [e]
   dsimp only
   rw [if_neg (by simp),if_neg (by omega),if_neg (by omega),if_neg (by omega)]
   refine Prod.ext ?_ (Prod.ext ?_ rfl)
   ·dsimp only
    rw [← bstr_of (ByteArray.extract _ _ _),Int.toNat_natCast,Int.toNat_natCast,extract_list,bstr_list]
    unfold txtL
    rw [List.append_assoc,List.drop_left,List.take_left' hl.symm,bstr_of]
   ·dsimp only; omega
  rw [text_bstr,e2]
  dsimp only
  rw [Int.toNat_natCast]
  unfold txtL
  rw [List.drop_left' (by rw [List.length_append,hl])]
 short k hk:=by
  have hl:=Lib.size_eq u
  rw [text_bstr]
  by_cases hb:k < (putN (u.size:Int)).length
  ·have e:takeS (bstr ((txtL u).take k)) = (0,0,20):=by
    rw [takeS_bstr]
    unfold txtL
    rw [List.take_append_of_le_length (Nat.le_of_lt hb)]
    exact take_short _ (by omega) (by omega) k hb
   unfold takeT
   rw [e]
   rfl
  ·have hk2:k < (putN (u.size:Int)).length + u.data.toList.length:=by unfold txtL at hk; rw [List.length_append] at hk; exact hk
   have e:takeS (bstr ((txtL u).take k)) = ((u.size:Int),((putN (u.size:Int)).length:Int),0):=by
    rw [takeS_bstr]
    unfold txtL
    rw [List.take_append,List.take_of_length_le (by omega:(putN (u.size:Int)).length ≤ k)]
    exact take_put _ (by omega) (by omega) _
   have hz:(bstr ((txtL u).take k)).size = k:=by
    rw [bstr_size,List.length_take]; omega
   unfold takeT
   rw [e,hz]
   dsimp only
   rw [if_neg (by simp),if_neg (by omega),if_neg (by omega),if_pos (by omega)]
theorem reps_rds {α:Type} {f:Rd → α × Rd} {b:α → List UInt8} (hs:Stk f):∀ (l:List α),(∀ x ∈ l,Rds f (b x) x) → Rds (reps f l.length) (l.flatMap b) l
 | [],_ => Rds.ret []
 | x :: l,h => by
  have e:reps f (x :: l).length = rdBnd f fun y => rdBnd (reps f l.length) fun m => rdRet (y :: m):=rfl
  have e2:(x :: l).flatMap b = b x ++ (l.flatMap b ++ []):=by simp
  rw [e,e2]
  exact (h x (by simp)).bnd ((reps_rds hs l (fun y hy => h y (by simp [hy]))).bnd (Rds.ret _) fun _ => Stk.ret _) fun _ => (reps_stk hs _).bnd fun _ => Stk.ret _
def fitE:Nat → Ex → Prop
 | 0,_ => False
 | k + 1,x => x.args.length ≤ 3 ∧ ∀ a ∈ x.args,fitE k a
theorem shape_args {x:Ex} (h:shapeB x = true):x.args.length ≤ 3:=by
 have h1:manyN x.op = x.args.length ∧ 0 ≤ x.n ∧ (x.n = 0 ∨ x.op = 1):=of_decide_eq_true h
 have:=h1.1
 unfold manyN at this
 repeat' split at this
 all_goals omega
theorem fit_of_may:∀ (k:Nat) (x:Ex),mayB k x = true → fitE (k + 1) x
 | 0,x,h => by simp [mayB] at h
 | k + 1,x,h => by
  simp only [mayB,Bool.and_eq_true,List.all_eq_true] at h
  exact ⟨shape_args h.1,fun a ha => fit_of_may k a (h.2 a ha)⟩
theorem Exs.by_flat:∀ l:List Ex,Exs.by l = l.flatMap Ex.by
 | [] => rfl
 | x :: l => by simp only [Exs.by,List.flatMap_cons]; rw [Exs.by_flat l]
theorem Exs.ok_mem:∀ {l:List Ex},Exs.ok l → ∀ x ∈ l,x.ok
 | y :: l,h,x,hx => by
  rcases List.mem_cons.1 hx with rfl | hx
  ·exact h.1
  ·exact Exs.ok_mem h.2 x hx
theorem ex_rds:∀ (k:Nat) (x:Ex),fitE k x → x.ok → Rds (Rd.ex k) x.by x
 | 0,x,h,_ => h.elim
 | k + 1,x,h,hok => by
  obtain ⟨h1,h2⟩:=h
  obtain ⟨o1,o2,o3,o4,o5⟩:=Ex.okC hok
  obtain ⟨o,n,l⟩:=x
  have e2:(Ex.mk o n l).by = putN o ++ (putN n ++ (putN (l.length:Int) ++ (l.flatMap Ex.by ++ []))):=by
   simp only [Ex.by,putL,List.flatMap_cons,List.flatMap_nil,List.append_nil,List.append_assoc,Exs.by_flat]
  rw [ex_succ,e2]
  simp only [Ex.args] at h1 h2 o5
  refine (small_rds o o1 o2).bnd ((num_rds n o3 o4).bnd ((many_rds 3 (l.length:Int) (by omega) (by omega) (by omega)).bnd (Rds.bnd (a:=l) ?_ (Rds.ret _) fun _ => Stk.ret _) ?_) ?_) ?_
  ·rw [Int.toNat_natCast]
   exact reps_rds (ex_stk k) l fun a ha => ex_rds k a (h2 a ha) (Exs.ok_mem o5 a ha)
  ·exact fun _ => (reps_stk (ex_stk k) _).bnd fun _ => Stk.ret _
  ·exact fun _ => (many_stk 3).bnd fun _ => (reps_stk (ex_stk k) _).bnd fun _ => Stk.ret _
  ·exact fun _ => num_stk.bnd fun _ => (many_stk 3).bnd fun _ => (reps_stk (ex_stk k) _).bnd fun _ => Stk.ret _
structure NdFit (d:Nd):Prop where
 uid:d.uid.size ≤ 65536
 ins:d.ins.length ≤ 12
 x:fitE 17 d.x
 ok:d.ok
theorem nd_rds (d:Nd) (h:NdFit d):Rds Rd.nd d.by d:=by
 obtain ⟨h1,h2,h3,o1,o2,o3,o4,o5,o6⟩:=h
 obtain ⟨u,kd,ins,x,n⟩:=d
 dsimp only at *
 have e2:(Nd.mk u kd ins x n).by = txtL u ++ (putN kd ++ (putN n ++ (putN (ins.length:Int) ++ (ins.flatMap putN ++ (x.by ++ []))))):=by
  simp only [Nd.by,putL,List.flatMap_cons,List.flatMap_nil,List.append_nil,List.append_assoc]
 rw [nd_eq,e2]
 refine (text_rds u h1).bnd ((small_rds kd o1 o2).bnd ((num_rds n o5 o6).bnd ((many_rds 12 (ins.length:Int) (by omega) (by omega) (by omega)).bnd (Rds.bnd (a:=ins) ?_ ((ex_rds 17 x h3 o4).bnd (Rds.ret _) fun _ => Stk.ret _) ?_) ?_) ?_) ?_) ?_
 ·rw [Int.toNat_natCast]
  exact reps_rds num_stk ins fun z hz => num_rds z (o3 z hz).1 (o3 z hz).2
 ·exact fun _ => (ex_stk 17).bnd fun _ => Stk.ret _
 ·exact fun _ => (reps_stk num_stk _).bnd fun _ => (ex_stk 17).bnd fun _ => Stk.ret _
 ·exact fun _ => (many_stk 12).bnd fun _ => (reps_stk num_stk _).bnd fun _ => (ex_stk 17).bnd fun _ => Stk.ret _
 ·exact fun _ => num_stk.bnd fun _ => (many_stk 12).bnd fun _ => (reps_stk num_stk _).bnd fun _ => (ex_stk 17).bnd fun _ => Stk.ret _
 ·exact fun _ => small_stk.bnd fun _ => num_stk.bnd fun _ => (many_stk 12).bnd fun _ => (reps_stk num_stk _).bnd fun _ => (ex_stk 17).bnd fun _ => Stk.ret _
theorem takeNds_rds:∀ (l:List Nd),(∀ d ∈ l,NdFit d) → Rds (takeNds l.length) (nodesBy l) l
 | [],_ => ⟨fun rest => rfl,fun k hk => absurd hk (Nat.not_lt_zero _)⟩
 | d :: l,h => by
  have h1:=nd_rds d (h d (by simp))
  have h2:=takeNds_rds l (fun e he => h e (by simp [he]))
  have e:nodesBy (d :: l) = d.by ++ nodesBy l:=rfl
  refine ⟨fun rest => ?_,fun k hk => ?_⟩
  ·rw [e,List.append_assoc,List.length_cons]
   simp only [takeNds]
   rw [h1.ok,if_neg (by simp)]
   dsimp only
   rw [h2.ok]
  ·rw [e] at hk ⊢
   rw [List.length_cons]
   simp only [takeNds]
   by_cases hb:k < d.by.length
   ·rw [List.take_append_of_le_length (Nat.le_of_lt hb)]
    have e:=h1.short k hb
    rw [if_pos (by rw [e]; decide)]
    exact e
   ·rw [List.take_append,List.take_of_length_le (by omega:d.by.length ≤ k),h1.ok,if_neg (by simp)]
    exact h2.short _ (by rw [List.length_append] at hk; omega)
theorem num_bck:Bck Rd.num putN (fun n => -9223372036854775808 ≤ n ∧ n ≤ 9223372036854775807):=fun p h => by
 by_cases hp:p.e = 0
 ·unfold Rd.num at h ⊢
  rw [if_pos hp] at h ⊢
  dsimp only at h ⊢
  have e:tkGo 0 0 p.s.data.toList = ((takeS p.s).1,(takeS p.s).2.1,0):=by rw [← h]; rfl
  obtain ⟨k,h1,h2,_,h4,h5,h6⟩:=take_back e
  refine ⟨hp,⟨h5,h6⟩, ?_⟩
  unfold Rd.cut
  rw [h1,Int.toNat_natCast,cut_list, ← h4,List.take_append_drop]
 ·rw [Rd.num_err hp] at h
  exact absurd h hp
theorem fail_pos {p:Rd} {why:Int} (hw:why ≠ 0):(p.fail why).e ≠ 0:=by
 unfold Rd.fail
 split
 ·exact hw
 ·assumption
theorem many_bck (m:Int):Bck (Rd.many m) putN (fun n => 0 ≤ n ∧ n ≤ m):=fun p h => by
 unfold Rd.many at h ⊢
 split at h
 ·exact absurd h (fail_pos (by decide))
 ·rename_i hc
  rw [if_neg hc]
  obtain ⟨h0,_,h2⟩:=num_bck p h
  exact ⟨h0,⟨by omega,by omega⟩,h2⟩
theorem small_bck:Bck Rd.small putN (fun n => 0 ≤ n ∧ n ≤ 255):=fun p h => by
 unfold Rd.small at h ⊢
 dsimp only at h ⊢
 split at h
 ·exact absurd h (fail_pos (by decide))
 ·rename_i hc
  rw [if_neg hc]
  obtain ⟨h0,_,h2⟩:=num_bck p h
  have e:p.num.1 % 256 = p.num.1:=Int.emod_eq_of_lt (by omega) (by omega)
  rw [e]
  exact ⟨h0,⟨by omega,by omega⟩,h2⟩
theorem text_bck:Bck Rd.text txtL (fun u => u.size ≤ 65536):=fun p h => by
 by_cases hp:p.e = 0
 ·unfold Rd.text at h ⊢
  rw [if_pos hp] at h ⊢
  dsimp only at h ⊢
  unfold takeT at h ⊢
  by_cases e0:(takeS p.s).2.2 = 0
  ·rw [if_neg (by simpa using e0)] at h ⊢
   by_cases e1:(takeS p.s).1 < 0
   ·rw [if_pos e1] at h; exact absurd h (by decide)
   rw [if_neg e1] at h ⊢
   by_cases e2:65536 < (takeS p.s).1
   ·rw [if_pos e2] at h; exact absurd h (by decide)
   rw [if_neg e2] at h ⊢
   by_cases e3:(p.s.size:Int) < (takeS p.s).2.1 + (takeS p.s).1
   ·rw [if_pos e3] at h; exact absurd h (by decide)
   rw [if_neg e3]
   dsimp only
   have e:tkGo 0 0 p.s.data.toList = ((takeS p.s).1,(takeS p.s).2.1,0):=by rw [← e0]; rfl
   obtain ⟨k,h1,h2,_,h4,h5,h6⟩:=take_back e
   obtain ⟨n,hn⟩:∃ n:Nat,(takeS p.s).1 = (n:Int):=⟨(takeS p.s).1.toNat,by omega⟩
   rw [hn] at h4
   rw [h1,hn] at e3 ⊢
   have hl:=Lib.size_eq p.s
   have hz:(p.s.extract k (k + n)).size = n:=by rw [ByteArray.size_extract]; omega
   refine ⟨hp, ?_, ?_⟩
   ·rw [Int.toNat_natCast,Int.toNat_natCast,hz]; omega
   ·unfold Rd.cut txtL
    rw [Int.toNat_natCast,Int.toNat_natCast,hz,extract_list, ← h4,show ((k:Int) + (n:Int)).toNat = k + n by omega,cut_list,List.append_assoc, ← List.drop_drop,List.take_append_drop,List.take_append_drop]
  ·rw [if_pos e0] at h
   exact absurd h e0
 ·unfold Rd.text at h
  rw [if_neg hp] at h
  exact absurd h hp
theorem reps_bck {α:Type} {f:Rd → α × Rd} {b:α → List UInt8} {Q:α → Prop} (h:Bck f b Q):∀ m,Bck (reps f m) (fun l => l.flatMap b) (fun l => l.length = m ∧ ∀ x ∈ l,Q x)
 | 0,p,hp => ⟨hp,⟨rfl,fun x hx => by cases hx⟩,rfl⟩
 | m + 1,p,hp => by
  simp only [reps] at hp ⊢
  obtain ⟨h1,⟨h2,h3⟩,h4⟩:=reps_bck h m _ hp
  obtain ⟨g1,g2,g3⟩:=h p h1
  refine ⟨g1,⟨by rw [List.length_cons,h2],fun x hx => ?_⟩, ?_⟩
  ·rcases List.mem_cons.1 hx with rfl | hx
   ·exact g2
   ·exact h3 x hx
  ·rw [g3,h4,List.flatMap_cons,List.append_assoc]
theorem exs_ok_of:∀ {l:List Ex},(∀ x ∈ l,x.ok) → Exs.ok l
 | [],_ => trivial
 | y :: l,h => ⟨h y (by simp),exs_ok_of fun x hx => h x (by simp [hx])⟩
theorem ex_bck:∀ k,Bck (Rd.ex k) Ex.by Ex.ok
 | 0,p,h => absurd h (fail_pos (by decide))
 | k + 1,p,h => by
  simp only [Rd.ex] at h ⊢
  obtain ⟨h3,⟨q3,r3⟩,e3⟩:=reps_bck (ex_bck k) _ _ h
  obtain ⟨h2,q2,e2⟩:=many_bck 3 _ h3
  obtain ⟨h1,q1,e1⟩:=num_bck _ h2
  obtain ⟨h0,q0,e0⟩:=small_bck _ h1
  refine ⟨h0,⟨q0.1,q0.2,q1.1,q1.2,exs_ok_of r3⟩, ?_⟩
  have hl:(((reps (Rd.ex k) (p.small.2.num.2.many 3).1.toNat (p.small.2.num.2.many 3).2).1.length:Nat):Int) = (p.small.2.num.2.many 3).1:=by rw [q3]; omega
  rw [e0,e1,e2,e3]
  simp only [Ex.by,putL,List.flatMap_cons,List.flatMap_nil,List.append_nil,List.append_assoc,Exs.by_flat,hl]
theorem nd_bck:Bck Rd.nd Nd.by (fun d => d.ok ∧ d.uid.size ≤ 65536):=fun p h => by
 have h':(Rd.ex 17 (reps Rd.num p.nd3.1.toNat p.nd3.2).2).2.e = 0:=h
 obtain ⟨h5,q5,e5⟩:=ex_bck 17 _ h'
 obtain ⟨h4,⟨q4,r4⟩,e4⟩:=reps_bck num_bck _ _ h5
 obtain ⟨h3,q3,e3⟩:=many_bck 12 _ h4
 obtain ⟨h2,q2,e2⟩:=num_bck _ h3
 obtain ⟨h1,q1,e1⟩:=small_bck _ h2
 obtain ⟨h0,q0,e0⟩:=text_bck _ h1
 refine ⟨h0,⟨⟨q1.1,q1.2,r4,q5,q2.1,q2.2⟩,q0⟩, ?_⟩
 have hl:(((reps Rd.num p.nd3.1.toNat p.nd3.2).1.length:Nat):Int) = p.nd3.1:=by rw [q4]; have:=q3.1; exact Int.toNat_of_nonneg this
 have e3':p.text.2.small.2.num.2.s.data.toList = putN p.nd3.1 ++ p.nd3.2.s.data.toList:=e3
 rw [e0,e1,e2,e3',e4,e5]
 show _ = Nd.by ⟨p.text.1,p.text.2.small.1,(reps Rd.num p.nd3.1.toNat p.nd3.2).1,(Rd.ex 17 (reps Rd.num p.nd3.1.toNat p.nd3.2).2).1,p.text.2.small.2.num.1⟩ ++ (Rd.ex 17 (reps Rd.num p.nd3.1.toNat p.nd3.2).2).2.s.data.toList
 simp only [Nd.by,putL,List.flatMap_cons,List.flatMap_nil,List.append_nil,List.append_assoc,hl]
theorem takeNds_bck:∀ m,Bck (takeNds m) nodesBy (fun l => l.length = m ∧ ∀ d ∈ l,d.ok ∧ d.uid.size ≤ 65536)
 | 0,p,hp => ⟨hp,⟨rfl,fun x hx => by cases hx⟩,rfl⟩
 | m + 1,p,hp => by
  simp only [takeNds] at hp ⊢
  by_cases hn:p.nd.2.e = 0
  ·rw [if_neg (by simpa using hn)] at hp ⊢
   obtain ⟨h1,⟨h2,h3⟩,h4⟩:=takeNds_bck m _ hp
   obtain ⟨g1,g2,g3⟩:=nd_bck p h1
   refine ⟨g1,⟨by rw [List.length_cons,h2],fun x hx => ?_⟩, ?_⟩
   ·rcases List.mem_cons.1 hx with rfl | hx
    ·exact g2
    ·exact h3 x hx
   ·rw [g3,h4]
    show _ = (p.nd.1 :: (takeNds m p.nd.2).1).flatMap Nd.by ++ _
    rw [List.flatMap_cons,List.append_assoc]
    rfl
  ·rw [if_pos hn] at hp
   exact absurd hp hn
def takeJ (s:ByteArray):Jb × Int :=
 let r:=Rd.jb s
 let p:=if r.2.s.size = 0 then r.2 else r.2.fail 2
 let q:=if r.1.may.2 = 0 then p else p.fail 2
 if q.e = 0 then (r.1,0) else (⟨0,[]⟩,q.e)
theorem jb_rds (j:Jb) (hok:j.ok) (hn:j.nodes.length ≤ 12) (hf:∀ d ∈ j.nodes,NdFit d) :
  (∀ rest,Rd.jb (bstr (j.by ++ rest)) = (j,⟨bstr rest,0⟩)) ∧ ∀ k,k < j.by.length → (Rd.jb (bstr (j.by.take k))).2.e = 20:=by
 have e:∀ s,Rd.jb s = rdBnd Rd.num (fun p => rdBnd (Rd.many 12) fun m => rdBnd (takeNds m.toNat) fun l => rdRet (⟨p,l⟩:Jb)) ⟨s,0⟩:=fun s => rfl
 have e2:j.by = putN j.par ++ (putN (j.nodes.length:Int) ++ (nodesBy j.nodes ++ [])):=by
  simp only [Jb.by,putL,List.flatMap_cons,List.flatMap_nil,List.append_nil,List.append_assoc]
 have h:Rds (rdBnd Rd.num fun p => rdBnd (Rd.many 12) fun m => rdBnd (takeNds m.toNat) fun l => rdRet (⟨p,l⟩:Jb)) j.by j:=by
  rw [e2]
  refine (num_rds j.par hok.1 hok.2.1).bnd ((many_rds 12 (j.nodes.length:Int) (by omega) (by omega) (by omega)).bnd (Rds.bnd (a:=j.nodes) ?_ (Rds.ret j) fun _ => Stk.ret _) ?_) ?_
  ·rw [Int.toNat_natCast]
   exact takeNds_rds j.nodes hf
  ·exact fun _ => (takeNds_stk _).bnd fun _ => Stk.ret _
  ·exact fun _ => (many_stk 12).bnd fun _ => (takeNds_stk _).bnd fun _ => Stk.ret _
 exact ⟨fun rest => by rw [e]; exact h.ok rest,fun k hk => by rw [e]; exact h.short k hk⟩
theorem jb_bck (s:ByteArray) (h:(Rd.jb s).2.e = 0):(Rd.jb s).1.ok ∧ (∀ d ∈ (Rd.jb s).1.nodes,d.uid.size ≤ 65536) ∧ s.data.toList = (Rd.jb s).1.by ++ (Rd.jb s).2.s.data.toList:=by
 have h':(takeNds ((Rd.num ⟨s,0⟩).2.many 12).1.toNat ((Rd.num ⟨s,0⟩).2.many 12).2).2.e = 0:=h
 obtain ⟨h2,⟨q2,r2⟩,e2⟩:=takeNds_bck _ _ h'
 obtain ⟨h1,q1,e1⟩:=many_bck 12 _ h2
 obtain ⟨_,q0,e0⟩:=num_bck _ h1
 refine ⟨⟨q0.1,q0.2,fun d hd => (r2 d hd).1⟩,fun d hd => (r2 d hd).2, ?_⟩
 have hl:(((takeNds ((Rd.num ⟨s,0⟩).2.many 12).1.toNat ((Rd.num ⟨s,0⟩).2.many 12).2).1.length:Nat):Int) = ((Rd.num ⟨s,0⟩).2.many 12).1:=by rw [q2]; exact Int.toNat_of_nonneg q1.1
 have e0':s.data.toList = putN (Rd.num ⟨s,0⟩).1 ++ (Rd.num ⟨s,0⟩).2.s.data.toList:=e0
 rw [e0',e1,e2]
 show _ = Jb.by ⟨(Rd.num ⟨s,0⟩).1,(takeNds ((Rd.num ⟨s,0⟩).2.many 12).1.toNat ((Rd.num ⟨s,0⟩).2.many 12).2).1⟩ ++ (takeNds ((Rd.num ⟨s,0⟩).2.many 12).1.toNat ((Rd.num ⟨s,0⟩).2.many 12).2).2.s.data.toList
 simp only [Jb.by,putL,List.flatMap_cons,List.flatMap_nil,List.append_nil,List.append_assoc,hl]
theorem bstr_nil_size {l:List UInt8}:(bstr l).size = 0 ↔ l = []:=by rw [bstr_size]; exact List.length_eq_zero_iff
theorem takeJ_back (s:ByteArray) (h:(takeJ s).2 = 0):(takeJ s).1.ok ∧ (∀ d ∈ (takeJ s).1.nodes,d.uid.size ≤ 65536) ∧ (takeJ s).1.may.2 = 0 ∧ s = bstr (takeJ s).1.by:=by
 unfold takeJ at h ⊢
 dsimp only at h ⊢
 by_cases hm:(Rd.jb s).1.may.2 = 0
 ·rw [if_pos hm] at h ⊢
  by_cases hz:(Rd.jb s).2.s.size = 0
  ·rw [if_pos hz] at h ⊢
   by_cases he:(Rd.jb s).2.e = 0
   ·rw [if_pos he] at h ⊢
    obtain ⟨h1,h2,h3⟩:=jb_bck s he
    refine ⟨h1,h2,hm, ?_⟩
    have h0:(Rd.jb s).2.s.data.toList = []:=List.length_eq_zero_iff.1 (by rw [← Lib.size_eq]; exact hz)
    dsimp only
    rw [h0,List.append_nil] at h3
    rw [← h3,bstr_of]
   ·rw [if_neg he] at h
    exact absurd h he
  ·rw [if_neg hz,if_neg (fail_pos (by decide))] at h
   exact absurd h (fail_pos (by decide))
 ·rw [if_neg hm,if_neg (fail_pos (by decide))] at h
  exact absurd h (fail_pos (by decide))
theorem takeJ_err (s:ByteArray) (h:(takeJ s).2 ≠ 0):(takeJ s).1 = ⟨0,[]⟩:=by
 have e:∀ q:Rd,(if q.e = 0 then ((Rd.jb s).1,(0:Int)) else (⟨0,[]⟩,q.e)).2 ≠ 0 → (if q.e = 0 then ((Rd.jb s).1,(0:Int)) else (⟨0,[]⟩,q.e)).1 = ⟨0,[]⟩:=fun q h => by
  by_cases hq:q.e = 0
  ·rw [if_pos hq] at h; exact absurd rfl h
  ·rw [if_neg hq]
 exact e _ h
theorem takeT_small (u:ByteArray):(takeT u).1.size ≤ 65536:=by
 by_cases h:(takeT u).2.2 = 0
 ·exact (takeT_back u h).1
 ·rw [(takeT_err u h).1]; decide
theorem takeJ_ok (s:ByteArray):(takeJ s).1.ok:=by
 by_cases h:(takeJ s).2 = 0
 ·exact (takeJ_back s h).1
 ·rw [takeJ_err s h]; exact ⟨by decide,by decide,by simp⟩
theorem eql_dec (a b:ByteArray):(a.toList == b.toList) = decide (a = b):=by
 rw [ByteArray.toList_eq,ByteArray.toList_eq]
 by_cases h:a = b
 ·subst h; simp
 ·have:a.data.toList ≠ b.data.toList:=fun k => h (by obtain ⟨⟨a⟩⟩:=a; obtain ⟨⟨b⟩⟩:=b; simpa using k)
  rw [decide_eq_false h,beq_eq_false_iff_ne]
  exact this
theorem putLit_c (zs:List Int) (m:Nat) (cs:Array Value) (hcs:cs.toList = zs.map (Value.int .i64)) (hm:zs.length = m) (hr:∀ z ∈ zs, -9223372036854775808 ≤ z ∧ z ≤ 9223372036854775807) (hl:m ≤ 1000) (W:World) :
  Calls Tryz.prog 99 #[.slice (some ⟨W.heap.size,0,none⟩) m m] (W.alloc (.cells cs 2)) fun e w' => e = .returned (.string (bstr (putL zs))) ∧ Below W.heap.size W w':=by
 have hsz:cs.size = m:=by rw [← Array.length_toList,hcs,List.length_map,hm]
 have hsl:Sl (W.alloc (.cells cs 2)) (W.alloc (.cells cs 2)).heap.size 1 (.slice (some ⟨W.heap.size,0,none⟩) m m) m (zs.map (Value.int .i64)) :=
  ⟨by rw [List.length_map,hm]; omega,_,m,rfl,Nat.le_refl _,by unfold maxLen; omega, .inr ⟨W.heap.size,0,rfl,by simp,fun j hj => by
   rw [Nat.zero_add,(Blk.new W cs 2).cell j, ← hcs]
   simp⟩⟩
 refine (PutB_c zs m _ _ _ hsl hm (Nat.le_refl _) hr hl).mono ?_
 rintro e w1 ⟨rfl,hb1⟩
 exact ⟨rfl,((Below.refl W.heap.size W).alloc (Nat.le_refl _) _).trans (hb1.mono (by simp))⟩
theorem ArgsAt.across {a b w:World} {B:Nat} {l:List Ex} {v:Value} (h:ArgsAt a B l v) (h1:Below B w a) (h2:Below B w b):ArgsAt b B l v:=by
 induction h with
 | nil a cap hm => exact .nil a cap hm
 | cons l b off cap sv hl hb hcap hm q0 q1 q2 _ ih =>
  have e:∀ o,World.cell? _ ⟨b,o,none⟩ = World.cell? _ ⟨b,o,none⟩:=fun o => (h2.cell (p:=⟨b,o,none⟩) hb).trans (h1.cell (p:=⟨b,o,none⟩) hb).symm
  exact .cons l b off cap sv hl hb hcap hm (fun j h => (e _).trans (q0 j h)) (fun j h => (e _).trans (q1 j h)) (fun j h => (e _).trans (q2 j h)) ih
theorem nodesBy_take (l:List Nd) (k:Nat) (hk:k < l.length):nodesBy (l.take (k + 1)) = nodesBy (l.take k) ++ (l[k]'hk).by:=by
 unfold nodesBy
 rw [List.take_succ_eq_append_getElem hk,List.flatMap_append,List.flatMap_cons,List.flatMap_nil,List.append_nil]
theorem nodesBy_len (l:List Nd) (h:∀ d ∈ l,NdSmall d) (hok:∀ d ∈ l,d.ok):(nodesBy l).length ≤ 40000 * l.length:=by
 induction l with
 | nil => simp [nodesBy]
 | cons d l ih =>
  have h1:=ih (fun e he => h e (by simp [he])) (fun e he => hok e (by simp [he]))
  have h2:=Nd.by_len (h d (by simp)) (hok d (by simp))
  have e:nodesBy (d :: l) = d.by ++ nodesBy l:=rfl
  rw [e,List.length_append,List.length_cons]
  omega
def Jb.putR (j:Jb):List UInt8 × Int:=if j.may.2 = 0 then (j.by,0) else ([],2)
set_option maxRecDepth 100000 in
set_option maxHeartbeats 8000000 in
theorem PackPut_c (jb:Jb) (hok:jb.ok) (v:Value) (B:Nat) (w:World) (hv:JbAt w B v jb) (hB:B ≤ w.heap.size) :
  Calls Tryz.prog 98 #[v] w fun e w' => e = .returned (.tuple #[.string (bstr jb.putR.1), .int .i64 jb.putR.2]) ∧ Below w.heap.size w w':=by
 have HV:=Lib.hid hv
 obtain ⟨sv,rfl,hs⟩:=hv
 obtain ⟨a,cap,rfl,hcap,hmx⟩:=hs.slice
 have HS:=Lib.hid hs
 have hK:=(KB.start w).push #[.int .i64 jb.par, .slice a jb.nodes.length cap] 26
 have HMY:Hid (∀ W,Below w.heap.size w W → Calls Tryz.prog 64 #[.agg #[.int .i64 jb.par, .slice a jb.nodes.length cap]] W fun e w' => e = .returned (.tuple #[.int .i64 jb.may.1, .int .i64 jb.may.2]) ∧ Below W.heap.size W w'):=fun W h => May_c1 jb _ B W (HV.out.keep (h.mono hB)) (Nat.le_trans hB h.size)
 have HE:Hid (jb.putR = if jb.may.2 = 0 then (jb.by,0) else ([],2)):=rfl
 have HGS:=Lib.hid (fun h => good_small hok h)
 have HNO:=Lib.hid hok.2.2
 have HBE:Hid (jb.by = putL [jb.par,(jb.nodes.length:Int)] ++ nodesBy jb.nodes):=rfl
 generalize jb.putR = R at *
 generalize jb.may = m at *
 obtain ⟨m1,m2⟩:=m
 dsimp only at HMY HE HGS
 generalize jb.by = jby at *
 generalize jb.par = jp at *
 generalize jb.nodes = nds at *
 clear hs hcap hok
 by_cases hm:m2 = 0
 ·obtain ⟨hsm,hn12,hp1,hp2⟩:=HGS.out hm
  have hm':(m2 != 0) = false:=by rw [hm]; rfl
  have HR:Hid (R = (jby,0)):=by show _ = _; rw [HE.out,if_pos hm]
  have HSM:=Lib.hid hsm
  have HPR:Hid (∀ z ∈ [jp,(nds.length:Int)], -9223372036854775808 ≤ z ∧ z ≤ 9223372036854775807):=by
   intro z hz
   simp only [List.mem_cons,List.not_mem_nil,or_false] at hz
   rcases hz with rfl | rfl <;> omega
  have HNL:Hid (∀ k,k ≤ nds.length → (nodesBy (nds.take k)).length ≤ 480000):=fun k hk => by
   have:=nodesBy_len (nds.take k) (fun e he => hsm e (List.mem_of_mem_take he)) (fun e he => HNO.out e (List.mem_of_mem_take he))
   have h2:(nds.take k).length ≤ 12:=by rw [List.length_take]; omega
   omega
  have hpl:=putL_len [jp,(nds.length:Int)] HPR.out
  generalize hP:putL [jp,(nds.length:Int)] = P at *
  have HP:=Lib.hid hP
  clear hP
  clear hsm HE HGS
  go_enter Tryz.func98,Tryz.ntmps98
  go_upto_region 1 with fail
  generalize World.alloc w _ = W at *
  have p0:=hK.hd.cell 0
  have p1:=hK.hd.cell 1
  go_wp2_with fail
  refine (HMY.out W hK.below).mono ?_
  rintro e w1 ⟨rfl,hq⟩
  replace hK:=hK.keep hq
  clear p0 p1 hq
  have p0:=hK.hd.cell 0
  have p1:=hK.hd.cell 1
  go_wp2_with fail
  refine (putLit_c [jp,(nds.length:Int)] 2 _ rfl rfl HPR.out (by omega) _).mono ?_
  rintro e w2 ⟨rfl,hq⟩
  replace hK:=hK.keep hq
  rw [HP.out]
  clear p0 p1 hq
  have p0:=hK.hd.cell 0
  have p1:=hK.hd.cell 1
  have hPe:bstr P = bstr (P ++ nodesBy (nds.take 0)):=by simp [nodesBy]
  rw [hPe]
  clear hPe
  go_wp2_with fail
  have hb2:=hK.below
  clear p0 p1 hK
  go_loopw [6,30] (fun s q wr => ∃ k:Nat,q = .int .i64 k ∧ k ≤ nds.length ∧ s = .string (bstr (P ++ nodesBy (nds.take k))) ∧ Below w.heap.size w wr) (fun _ q _ => nds.length - (intOf q).toNat)
  case atStart => exact ⟨0,rfl,Nat.zero_le _,rfl,hb2⟩
  case round =>
   obtain ⟨k,rfl,hk,rfl,hBr⟩:=hrel
   by_cases hlt:k < nds.length
   ·obtain ⟨b,off,cp,e1,hb,hu,iv,sv,c0,c1,c2,c3,c4,c5,c6,hin⟩:=((HS.out.mono hB).keep hBr).at_ k hlt
    simp only [Value.slice.injEq,true_and] at e1
    obtain ⟨rfl,rfl⟩:=e1
    obtain ⟨a2,cap2,rfl,_,_⟩:=hin.2.slice
    obtain ⟨_,ai,capi,rfl,_,hmi,hrest⟩:=id hin.1
    clear hrest
    have hd:=HSM.out _ (List.getElem_mem hlt)
    have hdok:=HNO.out _ (List.getElem_mem hlt)
    have HTK:=Lib.hid (nodesBy_take nds k hlt)
    have hnl:=HNL.out k hk
    have hnl2:=HNL.out (k + 1) (by omega)
    rw [HTK.out,List.length_append] at hnl2
    generalize nds[k] = d at *
    have HDB:Hid (d.by = txtL d.uid ++ putL [d.kind,d.n,(d.ins.length:Int)] ++ putL d.ins ++ d.x.by):=rfl
    have hus:=hd.uid
    have hii:=hd.ins
    have hxl:=hd.x
    obtain ⟨k1,k2,k3,k4,k5,k6⟩:=hdok
    have HIO:=Lib.hid k3
    have HXO:=Lib.hid k4
    have hpi:=putL_len d.ins k3
    have HP3:Hid (∀ z ∈ [d.kind,d.n,(d.ins.length:Int)], -9223372036854775808 ≤ z ∧ z ≤ 9223372036854775807):=by
     intro z hz
     simp only [List.mem_cons,List.not_mem_nil,or_false] at hz
     rcases hz with rfl | rfl | rfl <;> omega
    have hp3:=putL_len [d.kind,d.n,(d.ins.length:Int)] HP3.out
    have htx:(txtL d.uid).length ≤ 200:=by
     have h6:=putN_len (d.uid.size:Int) (by omega) (by omega)
     have h7:=Lib.size_eq d.uid
     unfold txtL
     rw [List.length_append]
     omega
    have HI1:=Lib.hid hin.1
    have HI2:=Lib.hid hin.2
    clear hin hd k3 k4
    have HTT:Hid (∀ W:World,Calls Tryz.prog 117 #[.string d.uid] W fun e w' => e = .returned (.tuple #[.string (bstr (txtL d.uid)), .int .i64 0]) ∧ Below W.heap.size W w'):=fun W => PutText_c d.uid (by omega) W
    generalize nodesBy (nds.take k) = N0 at *
    generalize hdx:d.x = x at *
    generalize hdi:d.ins = ins at *
    generalize hdn:d.n = dn at *
    generalize hdk:d.kind = dk at *
    generalize hdu:d.uid = u at *
    generalize txtL u = tu at *
    generalize d.by = dby at *
    clear hdx hdi hdn hdk hdu hu
    have hil:ins.length ≤ 9223372036854775807:=by omega
    have hK:=(⟨hBr,by simp⟩:KB w wr []).push #[.string u, .int .u8 dk, .slice ai ins.length capi, .int .u8 x.op, .int .i64 x.n, .slice a2 x.args.length cap2, .int .i64 dn] 181
    go_upto_region 8 with fail
    generalize hnb:wr.heap.size = nb at *
    generalize hw7:wr.alloc (.cells #[.string u, .int .u8 dk, .slice ai ins.length capi, .int .u8 x.op, .int .i64 x.n, .slice a2 x.args.length cap2, .int .i64 dn] 181) = W7 at *
    clear c0 c1 c2 c3 c4 c5 c6
    have p0:=hK.hd.cell 0
    have p1:=hK.hd.cell 1
    have p2:=hK.hd.cell 2
    have p3:=hK.hd.cell 3
    have p4:=hK.hd.cell 4
    have p5:=hK.hd.cell 5
    have p6:=hK.hd.cell 6
    go_wp2_with fail
    refine (HTT.out _).mono ?_
    rintro e w3 ⟨rfl,hq⟩
    replace hK:=hK.keep hq
    clear hq p0 p1 p2 p3 p4 p5 p6
    have hs0:=bstr_size (P ++ N0)
    rw [List.length_append] at hs0
    have hst:=bstr_size tu
    have hs3:=bstr_size (putL [dk,dn,(ins.length:Int)])
    have HC3:=Lib.hid (putLit_c [dk,dn,(ins.length:Int)] 3 #[.int .i64 dk, .int .i64 dn, .int .i64 (ins.length:Int)] rfl rfl HP3.out (by omega))
    have HA1:Hid (bstr (P ++ N0) ++ (bstr tu ++ bstr (putL [dk,dn,(ins.length:Int)])) = bstr ((P ++ N0) ++ (tu ++ putL [dk,dn,(ins.length:Int)]) ++ putL (ins.take 0))):=by
     show _ = _
     rw [bstr_app,bstr_app]
     simp [putL]
    have hl3:[dk,dn,(ins.length:Int)].length = 3:=rfl
    rw [hl3] at hp3
    have hl2:[jp,(nds.length:Int)].length = 2:=rfl
    have hpl2:P.length ≤ 20:=by rw [hl2] at hpl; omega
    generalize putL [dk,dn,(ins.length:Int)] = q3 at *
    generalize hX0:(P ++ N0) ++ (tu ++ q3) = X0 at *
    have HX0:=Lib.hid hX0
    have hX0l:X0.length ≤ 480000 + 20 + 200 + 30:=by rw [← hX0,List.length_append,List.length_append,List.length_append]; omega
    clear hX0
    generalize bstr (P ++ N0) = S0 at *
    generalize bstr tu = ST at *
    generalize bstr q3 = S3 at *
    have p0:=hK.hd.cell 0
    have p1:=hK.hd.cell 1
    have p2:=hK.hd.cell 2
    have p3:=hK.hd.cell 3
    have p4:=hK.hd.cell 4
    have p5:=hK.hd.cell 5
    have p6:=hK.hd.cell 6
    go_wp2_with fail
    refine (HC3.out _).mono ?_
    rintro e w4 ⟨rfl,hq⟩
    replace hK:=hK.keep hq
    clear hq p0 p1 p2 p3 p4 p5 p6
    have p0:=hK.hd.cell 0
    have p1:=hK.hd.cell 1
    have p2:=hK.hd.cell 2
    have p3:=hK.hd.cell 3
    have p4:=hK.hd.cell 4
    have p5:=hK.hd.cell 5
    have p6:=hK.hd.cell 6
    go_upto_region 10 with fail
    rw [HA1.out]
    go_wp2_with fail
    clear p0 p1 p2 p3 p4 p5 p6
    go_loopw [6,57] (fun s q wx => ∃ j:Nat,q = .int .i64 j ∧ j ≤ ins.length ∧ s = .string (bstr (X0 ++ putL (ins.take j))) ∧ KB w wx [(nb,181,#[.string u, .int .u8 dk, .slice ai ins.length capi, .int .u8 x.op, .int .i64 x.n, .slice a2 x.args.length cap2, .int .i64 dn])]) (fun _ q _ => ins.length - (intOf q).toNat)
    case atStart => exact ⟨0,rfl,Nat.zero_le _,rfl,hK⟩
    case round =>
     obtain ⟨j,rfl,hj,rfl,hKx⟩:=hrel
     by_cases hjl:j < ins.length
     ·obtain ⟨bi,oi,ci,e2,hbi,hjl',d0⟩:=(HI1.out.across hBr hKx.below).int j hjl
      simp only [Value.slice.injEq,true_and] at e2
      obtain ⟨rfl,rfl⟩:=e2
      have HTI:=Lib.hid (putL_take ins j hjl')
      have hzr:=HIO.out _ (List.getElem_mem hjl')
      have hbj:(putL (ins.take j)).length ≤ 30:=by
       have:=putL_len (ins.take j) (fun y hy => HIO.out y (List.mem_of_mem_take hy))
       have h2:(ins.take j).length ≤ 3:=by rw [List.length_take]; omega
       omega
      generalize ins[j] = z at *
      have HCZ:=Lib.hid (putLit_c [z] 1 #[.int .i64 z] rfl rfl (by intro y hy; simp at hy; subst hy; exact hzr) (by omega))
      have hz1:(putL [z]).length ≤ 10:=putL_len [z] (by intro y hy; simp at hy; subst hy; exact hzr)
      have hse:=bstr_size (X0 ++ putL (ins.take j))
      rw [List.length_append] at hse
      have hsz:=bstr_size (putL [z])
      have HAZ:Hid (bstr (X0 ++ putL (ins.take j)) ++ bstr (putL [z]) = bstr (X0 ++ putL (ins.take (j + 1)))):=by
       show _ = _
       rw [bstr_app,HTI.out,List.append_assoc]
       simp [putL]
      generalize bstr (X0 ++ putL (ins.take j)) = E0 at *
      generalize bstr (putL [z]) = EZ at *
      go_wp2_with fail
      refine (HCZ.out _).mono ?_
      rintro e w5 ⟨rfl,hq⟩
      go_wp2_with fail
      go_roundw
      case rel =>
       (repeat apply Exists.intro)
       exact ⟨⟨j + 1,by go_num,by omega,by rw [HAZ.out],hKx.keep hq⟩,rfl⟩
      case measure => simp [intOf]; omega
     ·obtain rfl:j = ins.length:=by omega
      rw [List.take_of_length_le (Nat.le_refl _)]
      have HX:Hid (ExAt wr wr.heap.size (.agg #[.int .u8 x.op, .int .i64 x.n, .slice a2 x.args.length cap2]) x):=⟨_,rfl,(HI2.out.across hBr hKx.below).mono hKx.below.size⟩
      have HCX:=Lib.hid (putEx_all x.ht x _ _ wr (Nat.le_refl _) HXO.out (by omega) HX.out (Nat.le_refl _))
      have hse:=bstr_size (X0 ++ putL ins)
      rw [List.length_append] at hse
      have hsx:=bstr_size x.by
      have HAX:Hid (bstr (X0 ++ putL ins) ++ bstr x.by = bstr (P ++ nodesBy (nds.take (k + 1)))):=by
       show _ = _
       rw [bstr_app,HTK.out,HDB.out, ← HX0.out]
       simp only [List.append_assoc]
      generalize bstr (X0 ++ putL ins) = E0 at *
      generalize bstr x.by = EX at *
      have p0:=hKx.hd.cell 0
      have p1:=hKx.hd.cell 1
      have p2:=hKx.hd.cell 2
      have p3:=hKx.hd.cell 3
      have p4:=hKx.hd.cell 4
      have p5:=hKx.hd.cell 5
      have p6:=hKx.hd.cell 6
      go_wp2_with fail
      refine HCX.out.mono ?_
      rintro e w6 ⟨rfl,hq⟩
      go_wp2_with fail
      go_roundw
      case rel => exact ⟨k + 1,by go_num,by omega,by rw [HAX.out],(hKx.keep hq).below⟩
      case measure => simp [intOf]; omega
   ·obtain rfl:k = nds.length:=by omega
    rw [List.take_of_length_le (Nat.le_refl _)]
    go_wp2_with fail
    go_ret2
    rw [HR.out,HBE.out]
    exact ⟨rfl,hBr⟩
 ·have hm':(m2 != 0) = true:=by simpa using hm
  have HR:Hid (R = ([],2)):=by show _ = _; rw [HE.out,if_neg hm]
  clear HE HGS
  go_enter Tryz.func98,Tryz.ntmps98
  go_upto_region 1 with fail
  generalize World.alloc w _ = W at *
  have p0:=hK.hd.cell 0
  have p1:=hK.hd.cell 1
  go_wp2_with fail
  refine (HMY.out W hK.below).mono ?_
  rintro e w1 ⟨rfl,hq⟩
  go_wp2_with fail
  go_ret2
  rw [HR.out]
  exact ⟨rfl,(hK.keep hq).below⟩
mutual
theorem Ex.same_refl:∀ x:Ex,x.sameB x = true
 | .mk o n l => by simp only [Ex.sameB]; rw [Exs.same_refl l]; simp
theorem Exs.same_refl:∀ l:List Ex,Exs.sameB l l = true
 | [] => rfl
 | x :: l => by simp only [Exs.sameB]; rw [Ex.same_refl x,Exs.same_refl l]; rfl
end
theorem Nd.same_refl (x:Nd):x.sameB x = true:=by
 unfold Nd.sameB
 rw [Ex.same_refl,(intsB_iff _ _).2 rfl]
 simp
theorem Nds.same_refl:∀ l:List Nd,Nds.sameB l l = true
 | [] => rfl
 | x :: l => by simp only [Nds.sameB]; rw [Nd.same_refl x,Nds.same_refl l]; rfl
theorem Jb.same_refl (x:Jb):x.sameB x = true:=by
 unfold Jb.sameB
 rw [Nds.same_refl]
 simp
theorem fit_node (d:Nd) (k:Nat) (hok:d.ok) (h:nodeB d (k:Int) = true):NdFit d:=by
 have h1:nameB d.uid = true:=by
  unfold nodeB at h
  simp only [Bool.and_eq_true] at h
  exact h.1
 have h2:=(nodeB_in _ _ h).1
 have h3:d.uid.size ≤ 65536:=Nat.le_trans (name_size h1) (by decide)
 have h4:d.ins.length ≤ 12:=Nat.le_trans h2 (by decide)
 refine ⟨h3,h4, ?_,hok⟩
 unfold nodeB at h
 simp only [Bool.and_eq_true] at h
 have hx:=h.2.2.2.2.2.2.2.2.2
 cases ht:(rTy d.kind == 0)
 ·rw [ht,cond_false] at hx
  unfold Ex.isB at hx
  have hx:=(of_decide_eq_true hx).1
  unfold Ex.typ at hx
  by_cases hm:d.x.mayT = true
  ·have hm':mayB 16 d.x = true:=hm
   exact fit_of_may 16 d.x hm'
  ·rw [if_neg hm] at hx
   exact absurd hx (by decide)
 ·rw [ht,cond_true] at hx
  have:d.x.args = []:=by
   rw [Ex.sameB_eq] at hx
   simp only [Bool.and_eq_true] at hx
   have h3:=hx.2.2
   cases hl:d.x.args with
   | nil => rfl
   | cons y l => rw [hl] at h3; exact absurd h3 (by simp [Exs.sameB,Ex.args])
  exact ⟨by rw [this]; simp,by rw [this]; simp⟩
theorem good_fit {j:Jb} (hok:j.ok) (h:j.may.2 = 0):∀ d ∈ j.nodes,NdFit d:=by
 intro d hd
 obtain ⟨i,hi,rfl⟩:=List.mem_iff_getElem.1 hd
 exact fit_node _ _ (hok.2.2 _ hd) ((may_good j h).node i hi)
theorem takeJ_put {j:Jb} (hok:j.ok) (h:j.may.2 = 0):takeJ (bstr j.by) = (j,0):=by
 have e:=(jb_rds j hok (may_good j h).n2 (good_fit hok h)).1 []
 rw [List.append_nil] at e
 unfold takeJ
 dsimp only
 rw [e]
 dsimp only
 rw [if_pos h,if_pos (bstr_nil_size.2 rfl)]
 rfl
theorem by_len {j:Jb} (hok:j.ok) (h:j.may.2 = 0):j.by.length ≤ 1000000:=by
 obtain ⟨h1,h2,h3,h4⟩:=good_small hok h
 have h5:=nodesBy_len j.nodes h1 hok.2.2
 have h6:(putL [j.par,(j.nodes.length:Int)]).length ≤ 20:=by
  refine putL_len [j.par,(j.nodes.length:Int)] ?_
  intro z hz
  simp only [List.mem_cons,List.not_mem_nil,or_false] at hz
  rcases hz with rfl | rfl <;> omega
 unfold Jb.by
 rw [List.length_append]
 omega
theorem nodes_by_sum:∀ (l:List Nd) (left:Nat),(∀ d ∈ l,d.ok) → (∀ d ∈ l,NdSmall d) → left ≤ 1001 → 1 ≤ countGo l left → (nodesBy l).length ≤ 166 * l.length + 30 * (left - countGo l left)
 | [],left,_,_,_,_ => by simp [nodesBy,countGo]
 | d :: l,left,hok,hsm,hl,h => by
  simp only [countGo] at h ⊢
  have h3:=countGo_le l (d.x.count left)
  have h4:=Ex.count_le d.x left
  have ih:=nodes_by_sum l _ (fun f hf => hok f (by simp [hf])) (fun f hf => hsm f (by simp [hf])) (by omega) h
  obtain ⟨k1,k2,k3,k4,k5,k6⟩:=hok d (by simp)
  have hx:=(Ex.by_count d.x left k4 hl (by omega)).1
  have h1:=(hsm d (by simp)).uid
  have h2:=(hsm d (by simp)).ins
  have h5:(putL [d.kind,d.n,(d.ins.length:Int)]).length ≤ 30:=by
   refine putL_len [d.kind,d.n,(d.ins.length:Int)] ?_
   intro z hz
   simp only [List.mem_cons,List.not_mem_nil,or_false] at hz
   rcases hz with rfl | rfl | rfl <;> omega
  have h6:=putL_len d.ins k3
  have h7:=putN_len (d.uid.size:Int) (by omega) (by omega)
  have h8:=Lib.size_eq d.uid
  have e:nodesBy (d :: l) = d.by ++ nodesBy l:=rfl
  rw [e,List.length_append,List.length_cons]
  unfold Nd.by txtL
  simp only [List.length_append]
  omega
theorem by_small {j:Jb} (hok:j.ok) (h:j.may.2 = 0):j.by.length ≤ 32012:=by
 obtain ⟨hs,hn,hp1,hp2⟩:=good_small hok h
 have hp:=(may_good j h).pa
 have h1:=nodes_by_sum j.nodes 1001 hok.2.2 hs (Nat.le_refl _) (by unfold Jb.parts at hp; omega)
 have h2:(putL [j.par,(j.nodes.length:Int)]).length ≤ 20:=by
  refine putL_len [j.par,(j.nodes.length:Int)] ?_
  intro z hz
  simp only [List.mem_cons,List.not_mem_nil,or_false] at hz
  rcases hz with rfl | rfl <;> omega
 unfold Jb.parts at hp
 unfold Jb.by
 rw [List.length_append]
 omega
namespace Lg
end Lg
def I64 (z:Int):Prop := -9223372036854775808 ≤ z ∧ z ≤ 9223372036854775807
namespace St
end St
namespace Rdw
end Rdw
structure Sta where
 uid:ByteArray
 bytes:ByteArray
def Jb.kindAt (j:Jb) (i:Nat):Int:=((j.nodes[i]?).map (·.kind)).getD 0
def Jb.nAt (j:Jb) (i:Nat):Int:=((j.nodes[i]?).map (·.n)).getD 0
def stBad (j:Jb) (s:Sta) (tk:List Nat):Bool:=decide (j.find s.uid < 0) || (decide ((j.find s.uid).toNat ∈ tk) || !statefulB (j.kindAt (j.find s.uid).toNat))
def loadGo (j:Jb):List Sta → List Nat → Int
 | [],_ => 0
 | s :: l,tk =>
  if stBad j s tk = true then 180 else
  if (takeTb s.bytes).2 ≠ 0 then (takeTb s.bytes).2 else
  if fitsB (j.kindAt (j.find s.uid).toNat) (j.nAt (j.find s.uid).toNat) (takeTb s.bytes).1 = false then 181 else
  loadGo j l (tk ++ [(j.find s.uid).toNat])
def loadE (j:Jb) (l:List Sta):Int:=if j.may.2 ≠ 0 then 2 else loadGo j l []
structure Sv where
 n:Int
 cut:Int
 job:Jb
 states:List Sta
def sv0:Sv:=⟨0,0,⟨0,[]⟩,[]⟩
def stL (s:Sta):List UInt8:=txtL s.uid ++ txtL s.bytes
def stWide (s:Sta):Bool:=decide (65536 < s.uid.size) || (decide (65536 < s.bytes.size) || decide (65536 < (stL s).length))
def putSt:List Sta → List UInt8 × Int
 | [] => ([],0)
 | s :: l => if stWide s = true then ([],3) else (frL 10 (bstr (stL s)) ++ (putSt l).1,(putSt l).2)
def Sv.head (x:Sv):List UInt8:=putL [x.n,x.cut,(x.states.length:Int)] ++ txtL (bstr x.job.by)
def Sv.bad (x:Sv):Bool:=decide (loadE x.job x.states ≠ 0) || (decide (x.n < 1) || decide (x.cut < 0))
def putSv (x:Sv):List UInt8 × Int :=
 if x.bad = true then ([],2) else if (putSt x.states).2 ≠ 0 then ([],(putSt x.states).2) else (frL 9 (bstr x.head) ++ (putSt x.states).1,0)
structure Rt where
 e:Int
 text:ByteArray
 rest:ByteArray
namespace Rt
def mx (a b:Int):Int:=if a < b then b else a
def next (p:Rt):Rt:=⟨mx p.e (takeF p.rest).2.2.2,(takeF p.rest).2.1,p.rest.extract (takeF p.rest).2.2.1.toNat p.rest.size⟩
def num (p:Rt):Int × Rt:=((takeS p.text).1,⟨mx p.e (takeS p.text).2.2,p.text.extract (takeS p.text).2.1.toNat p.text.size,p.rest⟩)
def read (p:Rt):ByteArray × Rt:=((takeT p.text).1,⟨mx p.e (takeT p.text).2.2,p.text.extract (takeT p.text).2.1.toNat p.text.size,p.rest⟩)
def sta (p:Rt):Sta × Rt:=(⟨p.next.read.1,p.next.read.2.read.1⟩,p.next.read.2.read.2)
def stas:Nat → Int → List Sta → Rt → List Sta × Rt
 | 0,_,l,p => (l,p)
 | k + 1,m,l,p => if 0 < m ∧ p.e = 0 then stas k (m - 1) (l ++ [p.sta.1]) p.sta.2 else (l,p)
end Rt
def headR (b:ByteArray):Int × Int × Int × Jb × Rt :=
 let p:=(Rt.mk 0 .empty b).next
 let n:=p.num
 let c:=n.2.num
 let m:=c.2.num
 let t:=m.2.read
 let j:=takeJ t.1
 (n.1,c.1,m.1,j.1,⟨Rt.mx t.2.e j.2,t.2.text,t.2.rest⟩)
def rawSv (b:ByteArray):Sv × Int :=
 let h:=headR b
 let q:=Rt.stas (b.size + 2) h.2.2.1 [] h.2.2.2.2
 (⟨h.1,h.2.1,h.2.2.2.1,q.1⟩,q.2.e)
def takeSv (b:ByteArray):Sv × Int :=
 if (rawSv b).2 = 0 ∧ (putSv (rawSv b).1).2 = 0 ∧ bstr (putSv (rawSv b).1).1 = b then ((rawSv b).1,0) else (sv0,230)
structure Sv.Ok (x:Sv):Prop where
 n:I64 x.n
 cut:I64 x.cut
 job:x.job.ok
 many:x.states.length ≤ 9223372036854775807
def stFr (s:Sta):Frm:=(10,bstr (stL s))
def Sv.frames (x:Sv):List Frm:=(9,bstr x.head) :: x.states.map stFr
theorem putSt_frs:∀ (l:List Sta),(putSt l).2 = 0 → (putSt l).1 = frs (l.map stFr) ∧ ∀ s ∈ l,stWide s = false
 | [],_ => ⟨rfl,by simp⟩
 | s :: l,h => by
  unfold putSt at h ⊢
  by_cases hw:stWide s = true
  ·rw [if_pos hw] at h; exact absurd h (by decide)
  ·rw [if_neg hw] at h ⊢
   obtain ⟨h1,h2⟩:=putSt_frs l h
   refine ⟨?_,fun t ht => ?_⟩
   ·show frL 10 (bstr (stL s)) ++ (putSt l).1 = _
    rw [h1]; rfl
   ·rcases List.mem_cons.1 ht with rfl | ht
    ·simpa using hw
    ·exact h2 t ht
theorem loadE_may {j:Jb} {l:List Sta} (h:loadE j l = 0):j.may.2 = 0:=by
 unfold loadE at h
 by_cases h1:j.may.2 = 0
 ·exact h1
 ·rw [if_pos h1] at h; exact absurd h (by decide)
namespace Sv
theorem put_ok {x:Sv} (h:(putSv x).2 = 0):x.bad = false ∧ (putSv x).1 = frs x.frames ∧ (∀ s ∈ x.states,stWide s = false) ∧ x.job.may.2 = 0:=by
 unfold putSv at h ⊢
 by_cases h1:x.bad = true
 ·rw [if_pos h1] at h; exact absurd h (by decide)
 rw [if_neg h1] at h ⊢
 by_cases h2:(putSt x.states).2 = 0
 ·rw [if_neg (by simpa using h2)]
  obtain ⟨h3,h4⟩:=putSt_frs _ h2
  refine ⟨by simpa using h1, ?_,h4, ?_⟩
  ·show frL 9 (bstr x.head) ++ (putSt x.states).1 = _
   rw [h3]; rfl
  ·unfold bad at h1
   simp only [Bool.or_eq_true,decide_eq_true_eq,not_or] at h1
   exact loadE_may (by simpa using h1.1)
 ·rw [if_pos h2] at h; exact absurd h h2
theorem head_size {x:Sv} (hok:x.Ok) (hm:x.job.may.2 = 0):(bstr x.job.by).size ≤ 65536 ∧ (bstr x.head).size ≤ 65536:=by
 have h1:=by_small hok.job hm
 have h2:(putL [x.n,x.cut,(x.states.length:Int)]).length ≤ 30:=by
  refine putL_len [x.n,x.cut,(x.states.length:Int)] ?_
  have:=hok.n; have:=hok.cut; have:=hok.many
  intro z hz
  simp only [List.mem_cons,List.not_mem_nil,or_false] at hz
  rcases hz with rfl | rfl | rfl
  ·assumption
  ·assumption
  ·unfold I64 at *; omega
 have h3:=(txtL_len (bstr x.job.by) (by rw [bstr_size]; omega)).1
 rw [bstr_size] at h3
 refine ⟨by rw [bstr_size]; omega, ?_⟩
 unfold head
 rw [bstr_size,List.length_append]
 omega
theorem frames_ok {x:Sv} (hok:x.Ok) (h:(putSv x).2 = 0):∀ p ∈ x.frames,p.ok:=by
 obtain ⟨_,_,h2,h3⟩:=put_ok h
 intro p hp
 rcases List.mem_cons.1 hp with rfl | hp
 ·exact ⟨by show 0 < 9; decide,by show 9 < 256; decide,(head_size hok h3).2⟩
 ·obtain ⟨s,hs,rfl⟩:=List.mem_map.1 hp
  have hw:=h2 s hs
  unfold stWide at hw
  simp only [Bool.or_eq_false_iff,decide_eq_false_iff_not] at hw
  exact ⟨by show 0 < 10; decide,by show 10 < 256; decide,by show (bstr (stL s)).size ≤ 65536; rw [bstr_size]; omega⟩
end Sv
theorem num_put (e:Int) (n:Int) (hn:I64 n) (l:List UInt8) (r:ByteArray) (he:e = 0):(Rt.mk e (bstr (putN n ++ l)) r).num = (n,⟨0,bstr l,r⟩):=by
 subst he
 have h:takeS (bstr (putN n ++ l)) = (n,((putN n).length:Int),0):=by rw [takeS_bstr]; exact take_put n hn.1 hn.2 l
 unfold Rt.num
 rw [h]
 dsimp only
 rw [Int.toNat_natCast,cut_bstr,List.drop_left]
 rfl
theorem read_put' (e:Int) (u:ByteArray) (hu:u.size ≤ 65536) (l:List UInt8) (r:ByteArray) (he:e = 0):(Rt.mk e (bstr (txtL u ++ l)) r).read = (u,⟨0,bstr l,r⟩):=by
 subst he
 unfold Rt.read
 rw [takeT_put u hu]
 dsimp only
 rw [Int.toNat_natCast,cut_bstr,List.drop_left]
 rfl
theorem next_put (e:Int) (t:ByteArray) (k:Nat) (u:ByteArray) (h1:0 < k) (h2:k < 256) (hu:u.size ≤ 65536) (l:List UInt8) (he:e = 0):(Rt.mk e t (bstr (frL k u ++ l))).next = ⟨0,u,bstr l⟩:=by
 subst he
 unfold Rt.next
 rw [takeF_put k u h1 h2 hu]
 dsimp only
 rw [Int.toNat_natCast,cut_bstr,List.drop_left]
 rfl
theorem sta_put (t:ByteArray) (s:Sta) (hw:stWide s = false) (l:List UInt8):(Rt.mk 0 t (bstr (frL 10 (bstr (stL s)) ++ l))).sta = (s,⟨0,bstr [],bstr l⟩):=by
 unfold stWide at hw
 simp only [Bool.or_eq_false_iff,decide_eq_false_iff_not] at hw
 unfold Rt.sta
 rw [next_put 0 t 10 _ (by decide) (by decide) (by rw [bstr_size]; omega) l rfl]
 unfold stL
 rw [read_put' 0 s.uid (by omega) (txtL s.bytes) _ rfl]
 dsimp only
 have:=read_put' 0 s.bytes (by omega) [] (bstr l) rfl
 rw [List.append_nil] at this
 rw [this]
theorem stas_put:∀ (l:List Sta) (k:Nat) (acc:List Sta) (t:ByteArray),l.length < k → (∀ s ∈ l,stWide s = false) → Rt.stas k (l.length:Int) acc ⟨0,t,bstr (frs (l.map stFr))⟩ = (acc ++ l,⟨0,if l = [] then t else bstr [],bstr []⟩)
 | _,0,_,_,h,_ => absurd h (Nat.not_lt_zero _)
 | [],k + 1,acc,t,_,_ => by
  unfold Rt.stas
  rw [if_neg (by simp),List.append_nil,if_pos rfl]
  rfl
 | s :: l,k + 1,acc,t,h,hw => by
  have e:frs ((s :: l).map stFr) = frL 10 (bstr (stL s)) ++ frs (l.map stFr):=rfl
  unfold Rt.stas
  rw [if_pos ⟨by simp,rfl⟩,e,sta_put t s (hw s (by simp))]
  dsimp only
  rw [show (((s :: l).length:Nat):Int) - 1 = (l.length:Int) by simp]
  rw [stas_put l k (acc ++ [s]) (bstr []) (by simpa using h) (fun x hx => hw x (by simp [hx]))]
  simp
theorem putL3 (a b c:Int) (l:List UInt8):putL [a,b,c] ++ l = putN a ++ (putN b ++ (putN c ++ l)):=by unfold putL; simp
theorem headR_put {x:Sv} (hok:x.Ok) (hm:x.job.may.2 = 0) (l:List UInt8):headR (bstr (frL 9 (bstr x.head) ++ l)) = (x.n,x.cut,(x.states.length:Int),x.job,⟨0,bstr [],bstr l⟩):=by
 obtain ⟨hj,hh⟩:=Sv.head_size hok hm
 have hlen:I64 (x.states.length:Int):=by have:=hok.many; unfold I64; omega
 unfold headR
 rw [next_put 0 .empty 9 _ (by decide) (by decide) hh l rfl]
 unfold Sv.head
 rw [putL3]
 dsimp only
 rw [num_put 0 x.n hok.n _ _ rfl]
 dsimp only
 rw [num_put 0 x.cut hok.cut _ _ rfl]
 dsimp only
 rw [num_put 0 (x.states.length:Int) hlen _ _ rfl]
 dsimp only
 have:=read_put' 0 (bstr x.job.by) hj [] (bstr l) rfl
 rw [List.append_nil] at this
 rw [this]
 dsimp only
 rw [takeJ_put hok.job hm]
 rfl
theorem frs_many:∀ (l:List Frm),l.length ≤ (frs l).length
 | [] => by simp [frs_nil]
 | p :: l => by
  have:=frs_many l
  rw [frs_cons,List.length_append,List.length_cons,frL_len]
  omega
theorem takeSv_put {x:Sv} (hok:x.Ok) (h:(putSv x).2 = 0):takeSv (bstr (putSv x).1) = (x,0):=by
 obtain ⟨_,h2,h3,h4⟩:=Sv.put_ok h
 have e:rawSv (bstr (putSv x).1) = (x,0):=by
  unfold rawSv
  have hb:(bstr (putSv x).1).size = (putSv x).1.length:=bstr_size _
  rw [hb]
  have hm:=frs_many (x.states.map stFr)
  rw [List.length_map] at hm
  have hl:(putSv x).1 = frL 9 (bstr x.head) ++ frs (x.states.map stFr):=h2
  have hl2:x.states.length ≤ (putSv x).1.length:=by rw [hl,List.length_append]; omega
  generalize (putSv x).1.length = N at *
  rw [hl,headR_put hok h4]
  dsimp only
  rw [stas_put x.states (N + 2) [] (bstr []) (by omega) h3]
  rfl
 unfold takeSv
 rw [e]
 dsimp only
 rw [if_pos ⟨rfl,h,rfl⟩]
theorem takeSv_ok {b:ByteArray} (h:(takeSv b).2 = 0):takeSv b = ((rawSv b).1,0) ∧ (putSv (takeSv b).1).2 = 0 ∧ bstr (putSv (takeSv b).1).1 = b:=by
 unfold takeSv at h ⊢
 by_cases hc:(rawSv b).2 = 0 ∧ (putSv (rawSv b).1).2 = 0 ∧ bstr (putSv (rawSv b).1).1 = b
 ·rw [if_pos hc]
  exact ⟨rfl,hc.2.1,hc.2.2⟩
 ·rw [if_neg hc] at h; exact absurd h (by decide)
theorem takeSv_err {b:ByteArray} (h:(takeSv b).2 ≠ 0):takeSv b = (sv0,230):=by
 unfold takeSv at h ⊢
 by_cases hc:(rawSv b).2 = 0 ∧ (putSv (rawSv b).1).2 = 0 ∧ bstr (putSv (rawSv b).1).1 = b
 ·rw [if_pos hc] at h; exact absurd rfl h
 ·rw [if_neg hc]
theorem frs_pre:∀ (a b:List Frm) (more:List UInt8),(∀ p ∈ a,p.ok) → (∀ p ∈ b,p.ok) → frs a ++ more = frs b → ∃ c,b = a ++ c ∧ frs c = more
 | [],b,more,_,_,h => ⟨b,rfl,by rw [← h]; rfl⟩
 | p :: a,[],more,_,_,h => by
  have:=congrArg List.length h
  rw [frs_cons,frs_nil,List.length_append,List.length_append,frL_len] at this
  simp at this
 | p :: a,q :: b,more,ha,hb,h => by
  obtain ⟨p1,p2,p3⟩:=ha p (by simp)
  obtain ⟨q1,q2,q3⟩:=hb q (by simp)
  rw [frs_cons,frs_cons,List.append_assoc] at h
  have e1:=takeF_put p.1 p.2 p1 p2 p3 (frs a ++ more)
  rw [h,takeF_put q.1 q.2 q1 q2 q3] at e1
  simp only [Prod.mk.injEq] at e1
  have e:q = p:=Prod.ext e1.1 e1.2.1
  subst e
  obtain ⟨c,rfl,hc⟩:=frs_pre a b more (fun x hx => ha x (by simp [hx])) (fun x hx => hb x (by simp [hx])) (List.append_cancel_left h)
  exact ⟨c,rfl,hc⟩
theorem putSv_free {x y:Sv} (hx:x.Ok) (hy:y.Ok) (h1:(putSv x).2 = 0) (h2:(putSv y).2 = 0) {more:List UInt8} (h:(putSv x).1 ++ more = (putSv y).1):more = []:=by
 obtain ⟨_,a2,a3,a4⟩:=Sv.put_ok h1
 obtain ⟨_,b2,b3,b4⟩:=Sv.put_ok h2
 rw [a2,b2] at h
 obtain ⟨c,hc,rfl⟩:=frs_pre _ _ more (Sv.frames_ok hx h1) (Sv.frames_ok hy h2) h
 unfold Sv.frames at hc
 rw [List.cons_append,List.cons.injEq] at hc
 obtain ⟨e1,e2⟩:=hc
 have e3:bstr y.head = bstr x.head:=(Prod.mk.injEq _ _ _ _ ▸ e1).2
 have g1:=headR_put hx a4 []
 have g2:=headR_put hy b4 []
 rw [e3,g1] at g2
 simp only [Prod.mk.injEq] at g2
 have e4:x.states.length = y.states.length:=by have:=g2.2.2.1; omega
 have e5:=congrArg List.length e2
 rw [List.length_append,List.length_map,List.length_map] at e5
 have:c = []:=List.eq_nil_of_length_eq_zero (by omega)
 rw [this]; rfl
theorem takeSv_short {x:Sv} (hx:x.Ok) (h1:(putSv x).2 = 0) (k:Nat) (hk:k < (putSv x).1.length) (hr:(rawSv (bstr ((putSv x).1.take k))).1.Ok):takeSv (bstr ((putSv x).1.take k)) = (sv0,230):=by
 refine takeSv_err fun h => ?_
 obtain ⟨e,g1,g2⟩:=takeSv_ok h
 rw [e] at g1 g2
 dsimp only at g1 g2
 have g3:(putSv (rawSv (bstr ((putSv x).1.take k))).1).1 = (putSv x).1.take k:=by
  have:=congrArg (fun s => s.data.toList) g2
  simpa [bstr_list] using this
 have:=putSv_free hr hx g1 h1 (more:=(putSv x).1.drop k) (by rw [g3,List.take_append_drop])
 have h3:=congrArg List.length this
 rw [List.length_drop] at h3
 simp at h3
 omega
theorem takeSv_more {x:Sv} (hx:x.Ok) (h1:(putSv x).2 = 0) (more:List UInt8) (hr:(rawSv (bstr ((putSv x).1 ++ more))).1.Ok):((takeSv (bstr ((putSv x).1 ++ more))).2 = 0 ↔ more = []):=by
 refine ⟨fun h => ?_,fun h => ?_⟩
 ·obtain ⟨e,g1,g2⟩:=takeSv_ok h
  rw [e] at g1 g2
  dsimp only at g1 g2
  have g3:(putSv (rawSv (bstr ((putSv x).1 ++ more))).1).1 = (putSv x).1 ++ more:=by
   have:=congrArg (fun s => s.data.toList) g2
   simpa [bstr_list] using this
  exact putSv_free hx hr h1 g1 g3.symm
 ·subst h
  rw [List.append_nil,takeSv_put hx h1]
namespace Dk
def write (d:Dk) (x:Sv):Dk × Int :=
 if (putSv x).2 ≠ 0 then (d,(putSv x).2) else
 if (d.read 5).2 ≠ 0 then (d,(d.read 5).2) else
 let c:=if (d.read 5).1.size ≠ 0 then d.cut 5 0 else (d,0)
 if c.2 ≠ 0 then c else
 let a:=c.1.append 5 (bstr (putSv x).1)
 if a.2 ≠ 0 then a else
 let s:=a.1.sync
 if s.2 ≠ 0 then s else
 let m:=s.1.move 5 4
 if m.2 ≠ 0 then m else m.1.sync
def readSv (d:Dk):Sv × Int :=
 if (d.read 4).2 ≠ 0 then (sv0,(d.read 4).2) else if (d.read 4).1.size = 0 then (sv0,4) else takeSv (d.read 4).1
theorem op_at (d:Dk):(d.left = 0 ∧ d.op = ({ d with off:=true },50)) ∨ (d.left ≠ 0 ∧ d.op.2 = 0 ∧ d.op.1.off = d.off ∧ d.op.1.room = d.room ∧ d.op.1.now = d.now ∧ d.op.1.sure = d.sure ∧ d.op.1.loose = d.loose ∧ (d.left = -1 → d.op.1.left = -1)):=by
 unfold op
 by_cases h:d.left = 0
 ·rw [if_pos h]; exact .inl ⟨h,rfl⟩
 ·rw [if_neg h]
  refine .inr ⟨h, ?_⟩
  split
  ·exact ⟨rfl,rfl,rfl,rfl,rfl,rfl,fun e => by omega⟩
  ·exact ⟨rfl,rfl,rfl,rfl,rfl,rfl,fun e => e⟩
theorem change_at (d:Dk) (c:Chg):(d.left = 0 ∧ d.change c = ({ d with off:=true },50)) ∨ (d.left ≠ 0 ∧ (d.change c).2 = 0 ∧ (d.change c).1.off = d.off ∧ (d.change c).1.room = d.room ∧ (d.change c).1.now = c.does d.now ∧ (d.change c).1.sure = d.sure ∧ (d.change c).1.loose = d.loose ++ [c] ∧ (d.left = -1 → (d.change c).1.left = -1)):=by
 unfold change
 rcases op_at d with ⟨h,e⟩ | ⟨h,h0,h1,h2,h3,h4,h5,h6⟩
 ·rw [e,if_neg (by simp)]; exact .inl ⟨h,rfl⟩
 ·rw [if_pos h0]
  exact .inr ⟨h,rfl,h1,h2,by show c.does d.op.1.now = _; rw [h3],h4,by show d.op.1.loose ++ [c] = _; rw [h5],h6⟩
theorem sync_at (d:Dk) (ho:d.off = false):(d.left = 0 ∧ d.sync = ({ d with off:=true },50)) ∨ (d.left ≠ 0 ∧ d.sync.2 = 0 ∧ d.sync.1.off = false ∧ d.sync.1.room = d.room ∧ d.sync.1.now = d.now ∧ d.sync.1.sure = d.now ∧ d.sync.1.loose = [] ∧ (d.left = -1 → d.sync.1.left = -1)):=by
 unfold sync
 rw [if_neg (by rw [ho]; decide)]
 rcases op_at d with ⟨h,e⟩ | ⟨h,h0,h1,h2,h3,h4,h5,h6⟩
 ·rw [e,if_neg (by simp)]; exact .inl ⟨h,rfl⟩
 ·rw [if_pos h0]
  exact .inr ⟨h,rfl,h1.trans ho,h2,h3,h3,rfl,h6⟩
end Dk
structure Kdk (d:Dk) (a:Sv):Prop where
 len:d.now.length = 16
 off:d.off = false
 loose:d.loose = []
 sure:d.sure = d.now
 save:fl d.now 4 = bstr (putSv a).1
 temp:fl d.now 5 = .empty
structure Kck (d:Dk) (a:Sv):Prop where
 len:d.now.length = 16
 off:d.off = false
 loose:d.loose = []
 sure:d.sure = d.now
 left:d.left = -1
 save:fl d.now 4 = bstr (putSv a).1
theorem putSv_pos {a:Sv} (h:(putSv a).2 = 0):(bstr (putSv a).1).size ≠ 0:=by
 obtain ⟨_,e,_⟩:=Sv.put_ok h
 rw [e,bstr_size]
 unfold Sv.frames
 rw [frs_cons,List.length_append,frL_len]
 omega
def Dk.write2 (d:Dk) (t:ByteArray):Dk × Int :=
 let a:=d.append 5 t
 if a.2 ≠ 0 then a else
 let s:=a.1.sync
 if s.2 ≠ 0 then s else
 let m:=s.1.move 5 4
 if m.2 ≠ 0 then m else m.1.sync
theorem Dk.append_at (d:Dk) (ho:d.off = false) (t:ByteArray):d.append 5 t = (d,7) ∨ d.append 5 t = d.change (.app 5 t):=by
 unfold Dk.append
 rw [if_neg (by rw [ho]; decide),if_neg (by decide)]
 by_cases h:d.free < (t.size:Int)
 ·rw [if_pos h]; exact .inl rfl
 ·rw [if_neg h]; exact .inr rfl
theorem Dk.move_at (d:Dk) (ho:d.off = false):d.move 5 4 = d.change (.mv 5 4):=by
 unfold Dk.move
 rw [if_neg (by rw [ho]; decide),if_neg (by decide),if_neg (by decide)]
 rfl
theorem Dk.write2_at (d:Dk) (ho:d.off = false) (hl:d.loose = []) (hs:d.sure = d.now) (h16:d.now.length = 16) (t:ByteArray) (q:Dk × Int) (hq:d.write2 t = q) :
  (q.2 = 7 ∧ q.1 = d) ∨ (q.2 = 50 ∧ q.1.sure = d.now ∧ (q.1.loose = [] ∨ q.1.loose = [.app 5 t])) ∨
  (q.2 = 50 ∧ q.1.sure = (Chg.app 5 t).does d.now ∧ (q.1.loose = [] ∨ q.1.loose = [.mv 5 4])) ∨
  (q.2 = 0 ∧ q.1.off = false ∧ q.1.loose = [] ∧ q.1.sure = q.1.now ∧ q.1.now = (Chg.mv 5 4).does ((Chg.app 5 t).does d.now) ∧ (d.left = -1 → q.1.left = -1)):=by
 unfold Dk.write2 at hq
 rcases d.append_at ho t with e | e
 ·rw [e] at hq
  dsimp only at hq
  rw [if_pos (by decide)] at hq
  subst hq
  exact .inl ⟨rfl,rfl⟩
 rw [e] at hq
 rcases d.change_at (.app 5 t) with ⟨_,e1⟩ | ⟨_,a0,a1,a2,a3,a4,a5,a6⟩
 ·rw [e1] at hq
  dsimp only at hq
  rw [if_pos (by decide)] at hq
  subst hq
  exact .inr (.inl ⟨rfl,hs, .inl hl⟩)
 generalize d.change (.app 5 t) = x at *
 dsimp only at hq
 rw [if_neg (by rw [a0]; decide)] at hq
 rw [hl] at a5
 rcases x.1.sync_at (a1.trans ho) with ⟨_,e1⟩ | ⟨_,b0,b1,b2,b3,b4,b5,b6⟩
 ·rw [e1] at hq
  dsimp only at hq
  rw [if_pos (by decide)] at hq
  subst hq
  exact .inr (.inl ⟨rfl,a4.trans hs, .inr a5⟩)
 generalize x.1.sync = y at *
 rw [if_neg (by rw [b0]; decide),y.1.move_at b1] at hq
 rcases y.1.change_at (.mv 5 4) with ⟨_,e1⟩ | ⟨_,c0,c1,c2,c3,c4,c5,c6⟩
 ·rw [e1] at hq
  dsimp only at hq
  rw [if_pos (by decide)] at hq
  subst hq
  exact .inr (.inr (.inl ⟨rfl,b4.trans a3, .inl b5⟩))
 generalize y.1.change (.mv 5 4) = z at *
 rw [if_neg (by rw [c0]; decide)] at hq
 rw [b5] at c5
 rcases z.1.sync_at (c1.trans b1) with ⟨_,e1⟩ | ⟨_,d0,d1,d2,d3,d4,d5,d6⟩
 ·rw [e1] at hq
  subst hq
  exact .inr (.inr (.inl ⟨rfl,c4.trans (b4.trans a3), .inr c5⟩))
 ·subst hq
  refine .inr (.inr (.inr ⟨d0,d1,d5,d4.trans d3.symm, ?_,fun h => d6 (c6 (b6 (a6 h)))⟩))
  rw [d3,c3,b3,a3]
theorem does_app (l:Fls) (t:ByteArray) (h:l.length = 16):fl ((Chg.app 5 t).does l) 4 = fl l 4 ∧ fl ((Chg.app 5 t).does l) 5 = fl l 5 ++ t ∧ ((Chg.app 5 t).does l).length = 16:=by
 refine ⟨?_, ?_,by rw [Chg.does_len]; exact h⟩
 ·show fl (l.set 5 _) 4 = _
  rw [fl_set l 5 4 _ (by omega),if_neg (by decide)]
 ·show fl (l.set 5 _) 5 = _
  rw [fl_set l 5 5 _ (by omega),if_pos rfl]
theorem does_mv (l:Fls) (h:l.length = 16):fl ((Chg.mv 5 4).does l) 4 = fl l 5 ∧ fl ((Chg.mv 5 4).does l) 5 = .empty:=by
 refine ⟨?_, ?_⟩
 ·show fl ((l.set 4 _).set 5 _) 4 = _
  rw [fl_set _ 5 4 _ (by rw [List.length_set]; omega),if_neg (by decide),fl_set l 4 4 _ (by omega),if_pos rfl]
 ·show fl ((l.set 4 _).set 5 _) 5 = _
  rw [fl_set _ 5 5 _ (by rw [List.length_set]; omega),if_pos rfl]
theorem empty_app (t:ByteArray):ByteArray.empty ++ t = t:=by
 apply ByteArray.ext
 rw [ByteArray.data_append]
 simp
theorem write_plain (d:Dk) (x:Sv) (ho:d.off = false) (h5:fl d.now 5 = .empty):d.write x = if (putSv x).2 ≠ 0 then (d,(putSv x).2) else d.write2 (bstr (putSv x).1):=by
 have hr:d.read 5 = (.empty,0):=by
  unfold Dk.read
  rw [if_neg (by rw [ho]; decide),if_neg (by decide)]
  show (fl d.now 5,(0:Int)) = _
  rw [h5]
 unfold Dk.write
 rw [hr]
 dsimp only
 rw [if_neg (by decide : ¬ (0:Int) ≠ 0)]
 rw [if_neg (by decide : ¬ (ByteArray.empty).size ≠ 0)]
 dsimp only
 rw [if_neg (by decide : ¬ (0:Int) ≠ 0)]
 rfl
theorem write_first (room:Int) (a:Sv) (h:((Dk.new room).write a).2 = 0):(putSv a).2 = 0 ∧ Kdk ((Dk.new room).write a).1 a:=by
 have e:=write_plain (Dk.new room) a rfl rfl
 by_cases hp:(putSv a).2 = 0
 ·rw [if_neg (by simpa using hp)] at e
  refine ⟨hp, ?_⟩
  have hw:=Dk.write2_at (Dk.new room) rfl rfl rfl rfl (bstr (putSv a).1) _ rfl
  rw [e] at h ⊢
  rcases hw with ⟨h1,_⟩ | ⟨h1,_⟩ | ⟨h1,_⟩ | ⟨_,h2,h3,h4,h5,h6⟩
  ·rw [h1] at h; exact absurd h (by decide)
  ·rw [h1] at h; exact absurd h (by decide)
  ·rw [h1] at h; exact absurd h (by decide)
  ·obtain ⟨g1,g2,g3⟩:=does_app (Dk.new room).now (bstr (putSv a).1) rfl
   obtain ⟨k1,k2⟩:=does_mv _ g3
   refine ⟨by rw [h5,Chg.does_len]; exact g3,h2,h3,h4, ?_, ?_⟩
   ·rw [h5,k1,g2]
    exact empty_app _
   ·rw [h5,k2]
 ·rw [if_pos hp] at e
  rw [e] at h
  exact absurd h hp
theorem crash_none {d:Dk} (h:d.loose = []) (c n:Int):d.kept c n = d.sure:=by
 unfold Dk.kept
 rw [h]
 simp
theorem crash_one {d:Dk} {g:Chg} (h:d.loose = [g]) (c n:Int):d.kept c n = g.part n d.sure ∨ d.kept c n = g.does d.sure:=by
 unfold Dk.kept
 rw [h]
 by_cases hc:clip c [g].length = 0
 ·rw [hc]; exact .inl rfl
 ·have:clip c [g].length = 1:=by have h1:=clip_le c [g].length; have h2:[g].length = 1:=rfl; omega
  rw [this]; exact .inr rfl
theorem write_crash {d:Dk} {a b:Sv} (h:Kdk d a) (q:Dk × Int) (hq:d.write b = q) (c n:Int) :
  Kck (q.1.crash c n) b ∧ (putSv b).2 = 0 ∨ q.2 ≠ 0 ∧ Kck (q.1.crash c n) a:=by
 have hkc:∀ (x:Dk) (s:Sv),(x.kept c n).length = 16 → fl (x.kept c n) 4 = bstr (putSv s).1 → Kck (x.crash c n) s:=fun x s h1 h2 => ⟨h1,rfl,rfl,rfl,rfl,h2⟩
 rw [write_plain d b h.off h.temp] at hq
 by_cases hp:(putSv b).2 = 0
 ·rw [if_neg (by simpa using hp)] at hq
  obtain ⟨g1,g2,g3⟩:=does_app d.now (bstr (putSv b).1) h.len
  obtain ⟨k1,k2⟩:=does_mv _ g3
  have hsv:fl ((Chg.app 5 (bstr (putSv b).1)).does d.now) 5 = bstr (putSv b).1:=by rw [g2,h.temp]; exact empty_app _
  rcases d.write2_at h.off h.loose h.sure h.len _ q hq with ⟨h1,h2⟩ | ⟨h1,h2,h3⟩ | ⟨h1,h2,h3⟩ | ⟨h1,h2,h3,h4,h5,h6⟩
  ·refine .inr ⟨by rw [h1]; decide,hkc _ _ ?_ ?_⟩
   ·rw [h2,crash_none h.loose,h.sure]; exact h.len
   ·rw [h2,crash_none h.loose,h.sure]; exact h.save
  ·refine .inr ⟨by rw [h1]; decide, ?_⟩
   rcases h3 with h3 | h3
   ·exact hkc _ _ (by rw [crash_none h3,h2]; exact h.len) (by rw [crash_none h3,h2]; exact h.save)
   ·rcases crash_one h3 c n with e | e
    ·refine hkc _ _ (by rw [e,h2,Chg.part_len]; exact h.len) ?_
     rw [e,h2]
     show fl (d.now.set 5 _) 4 = _
     rw [fl_set d.now 5 4 _ (by rw [h.len]; decide),if_neg (by decide)]
     exact h.save
    ·exact hkc _ _ (by rw [e,h2]; exact g3) (by rw [e,h2,g1]; exact h.save)
  ·rcases h3 with h3 | h3
   ·exact .inr ⟨by rw [h1]; decide,hkc _ _ (by rw [crash_none h3,h2]; exact g3) (by rw [crash_none h3,h2,g1]; exact h.save)⟩
   ·rcases crash_one h3 c n with e | e
    ·have e2:q.1.kept c n = q.1.sure:=e
     exact .inr ⟨by rw [h1]; decide,hkc _ _ (by rw [e2,h2]; exact g3) (by rw [e2,h2,g1]; exact h.save)⟩
    ·exact .inl ⟨hkc _ _ (by rw [e,h2,Chg.does_len]; exact g3) (by rw [e,h2,k1]; exact hsv),hp⟩
  ·exact .inl ⟨hkc _ _ (by rw [crash_none h3,h4,h5,Chg.does_len]; exact g3) (by rw [crash_none h3,h4,h5,k1]; exact hsv),hp⟩
 ·rw [if_pos hp] at hq
  subst hq
  exact .inr ⟨hp,hkc _ _ (by rw [crash_none h.loose,h.sure]; exact h.len) (by rw [crash_none h.loose,h.sure]; exact h.save)⟩
theorem Kck.read {d:Dk} {a:Sv} (h:Kck d a) (hok:a.Ok) (hp:(putSv a).2 = 0):d.readSv = (a,0):=by
 have hr:d.read 4 = (bstr (putSv a).1,0):=by
  unfold Dk.read
  rw [if_neg (by rw [h.off]; decide),if_neg (by decide)]
  show (fl d.now 4,(0:Int)) = _
  rw [h.save]
 unfold Dk.readSv
 rw [hr]
 dsimp only
 rw [if_neg (by decide : ¬ (0:Int) ≠ 0),if_neg (putSv_pos hp),takeSv_put hok hp]
theorem Kck.crash {d:Dk} {a:Sv} (h:Kck d a) (c n:Int):Kck (d.crash c n) a:=by
 have e:d.kept c n = d.now:=by rw [crash_none h.loose,h.sure]
 exact ⟨by show (d.kept c n).length = 16; rw [e]; exact h.len,rfl,rfl,rfl,rfl,by show fl (d.kept c n) 4 = _; rw [e]; exact h.save⟩
theorem write_on {d:Dk} {x:Sv} (h1:d.off = false) (h2:d.left = -1):(d.write x).2 ≠ 50:=by
 have hop:∀ y:Dk,y.left = -1 → y.op = (y,0):=fun y h => by unfold Dk.op; rw [h]; rfl
 have hch:∀ (y:Dk) (c:Chg),y.left = -1 → (y.change c).2 = 0 ∧ (y.change c).1.left = -1 ∧ (y.change c).1.off = y.off:=fun y c h => by
  unfold Dk.change
  rw [hop y h,if_pos rfl]
  exact ⟨rfl,h,rfl⟩
 have hsy:∀ y:Dk,y.off = false → y.left = -1 → y.sync.2 = 0 ∧ y.sync.1.left = -1 ∧ y.sync.1.off = false:=fun y h h' => by
  unfold Dk.sync
  rw [if_neg (by rw [h]; decide),hop y h',if_pos rfl]
  exact ⟨rfl,h',h⟩
 have hw2:∀ (y:Dk) (t:ByteArray),y.off = false → y.left = -1 → (y.write2 t).2 ≠ 50:=fun y t h h' => by
  unfold Dk.write2
  rcases y.append_at h t with e | e
  ·rw [e]; dsimp only; rw [if_pos (by decide)]; show (7:Int) ≠ 50; decide
  rw [e]
  obtain ⟨c1,c2,c3⟩:=hch y (.app 5 t) h'
  dsimp only
  rw [if_neg (by rw [c1]; decide)]
  obtain ⟨s1,s2,s3⟩:=hsy _ (c3.trans h) c2
  rw [if_neg (by rw [s1]; decide),Dk.move_at _ s3]
  obtain ⟨m1,m2,m3⟩:=hch _ (.mv 5 4) s2
  rw [if_neg (by rw [m1]; decide)]
  obtain ⟨t1,_,_⟩:=hsy _ (m3.trans s3) m2
  rw [t1]; decide
 have hpe:(putSv x).2 ≠ 50:=by
  unfold putSv
  split
  ·dsimp only; decide
  split
  ·dsimp only
   have:∀ l:List Sta,(putSt l).2 = 0 ∨ (putSt l).2 = 3:=by
    intro l
    induction l with
    | nil => exact .inl rfl
    | cons s l ih =>
     unfold putSt
     split
     ·exact .inr rfl
     ·exact ih
   rcases this x.states with e | e <;> rw [e] <;> decide
  ·dsimp only; decide
 have hrd:(d.read 5).2 = 0:=by
  unfold Dk.read
  rw [if_neg (by rw [h1]; decide),if_neg (by decide)]
 unfold Dk.write
 split
 ·exact hpe
 rw [if_neg (by rw [hrd]; decide)]
 have hcut:(d.cut 5 0).2 = 0 ∧ (d.cut 5 0).1.left = -1 ∧ (d.cut 5 0).1.off = false:=by
  unfold Dk.cut
  rw [if_neg (by rw [h1]; decide),if_neg (by decide),if_neg (by omega)]
  obtain ⟨c1,c2,c3⟩:=hch d (.cut 5 0) h2
  exact ⟨c1,c2,c3.trans h1⟩
 by_cases hz:(d.read 5).1.size ≠ 0
 ·rw [if_pos hz]
  dsimp only
  rw [if_neg (by rw [hcut.1]; decide)]
  exact hw2 _ _ hcut.2.2 hcut.2.1
 ·rw [if_neg hz]
  dsimp only
  rw [if_neg (by decide)]
  exact hw2 _ _ h1 h2
namespace Tb
theorem num_btw {least most:Int} (h:least ≤ most) (p:Tb):least ≤ (p.num least most).1 ∧ (p.num least most).1 ≤ most:=by
 unfold num
 by_cases h1:p.e ≠ 0
 ·rw [if_pos h1]; exact ⟨Int.le_refl _,h⟩
 rw [if_neg h1]
 by_cases h2:(takeS p.s).2.2 ≠ 0
 ·rw [if_pos h2]; exact ⟨Int.le_refl _,h⟩
 rw [if_neg h2]
 by_cases h3:(takeS p.s).1 < least ∨ most < (takeS p.s).1
 ·rw [if_pos h3]; exact ⟨Int.le_refl _,h⟩
 ·rw [if_neg h3]
  show least ≤ (takeS p.s).1 ∧ (takeS p.s).1 ≤ most
  omega
theorem nums_many:∀ (n:Nat) (p:Tb),(nums n p).1.length = n
 | 0,_ => rfl
 | n + 1,p => by unfold nums; rw [List.length_cons,nums_many n]
theorem row_few (p:Tb):p.row.1.l.length ≤ 16:=by
 show (nums (p.any.2.any.2.num 0 16).1.toNat (p.any.2.any.2.num 0 16).2).1.length ≤ 16
 rw [nums_many]
 have:=num_btw (least:=0) (most:=16) (by decide) p.any.2.any.2
 omega
theorem rows_at:∀ (n:Nat) (rs:List Trow) (p:Tb),Rise rs → (∀ r ∈ rs,r.l.length ≤ 16) → Rise (rows n rs p).1 ∧ (∀ r ∈ (rows n rs p).1,r.l.length ≤ 16) ∧ (rows n rs p).1.length ≤ rs.length + n
 | 0,rs,p,h1,h2 => ⟨h1,h2,Nat.le_refl _⟩
 | n + 1,rs,p,h1,h2 => by
  unfold rows
  by_cases ha:p.row.2.e ≠ 0
  ·rw [if_pos ha]; exact ⟨List.Pairwise.nil,by simp,by simp⟩
  rw [if_neg ha]
  by_cases hb:rowBad rs p.row.1.key
  ·rw [if_pos hb]; exact ⟨List.Pairwise.nil,by simp,by simp⟩
  rw [if_neg hb]
  obtain ⟨g1,g2,g3⟩:=rows_at n (rs ++ [p.row.1]) p.row.2 (rise_snoc h1 hb) (fun r hr => by
   rcases List.mem_append.1 hr with hr | hr
   ·exact h2 r hr
   ·rw [List.mem_singleton.1 hr]; exact row_few p)
  refine ⟨g1,g2, ?_⟩
  rw [List.length_append,List.length_singleton] at g3
  omega
end Tb
theorem takeTb_at (s:ByteArray):Rise (takeTb s).1 ∧ (∀ r ∈ (takeTb s).1,r.l.length ≤ 16) ∧ (takeTb s).1.length ≤ 320:=by
 have hn:=Tb.num_btw (least:=0) (most:=320) (by decide) ⟨s,0⟩
 obtain ⟨g1,g2,g3⟩:=Tb.rows_at ((Tb.mk s 0).num 0 320).1.toNat [] ((Tb.mk s 0).num 0 320).2 List.Pairwise.nil (by simp)
 unfold takeTb
 dsimp only
 generalize Tb.rows ((Tb.mk s 0).num 0 320).1.toNat [] ((Tb.mk s 0).num 0 320).2 = q at *
 split
 ·exact ⟨List.Pairwise.nil,by simp,by simp⟩
 split
 ·exact ⟨List.Pairwise.nil,by simp,by simp⟩
 ·refine ⟨g1,g2, ?_⟩
  show q.1.length ≤ 320
  simp only [List.length_nil] at g3
  omega
theorem Tb.rows_keys:∀ (n:Nat) (rs:List Trow) (p:Tb),(∀ r ∈ rs,I64 r.key) → ∀ r ∈ (Tb.rows n rs p).1,I64 r.key
 | 0,rs,p,h => h
 | n + 1,rs,p,h => by
  unfold Tb.rows
  by_cases ha:p.row.2.e ≠ 0
  ·rw [if_pos ha]; intro r hr; cases hr
  rw [if_neg ha]
  by_cases hb:rowBad rs p.row.1.key
  ·rw [if_pos hb]; intro r hr; cases hr
  rw [if_neg hb]
  refine Tb.rows_keys n _ _ fun r hr => ?_
  rcases List.mem_append.1 hr with hr | hr
  ·exact h r hr
  ·rw [List.mem_singleton.1 hr]; exact Tb.num_btw (by decide) p
theorem takeTb_keys (s:ByteArray):∀ r ∈ (takeTb s).1,I64 r.key:=by
 have g:=Tb.rows_keys ((Tb.mk s 0).num 0 320).1.toNat [] ((Tb.mk s 0).num 0 320).2 (by simp)
 unfold takeTb
 dsimp only
 generalize Tb.rows ((Tb.mk s 0).num 0 320).1.toNat [] ((Tb.mk s 0).num 0 320).2 = q at *
 split
 ·intro r hr; cases hr
 split
 ·intro r hr; cases hr
 ·exact g
theorem Rise.keys {rs:List Trow} (h:Rise rs):(rs.map (·.key)).Nodup:=by
 refine List.pairwise_map.2 (h.imp fun hab => bef_ne hab)
namespace Rt
theorem stas_len:∀ (k:Nat) (m:Int) (l:List Sta) (p:Rt),(stas k m l p).1.length ≤ l.length + k
 | 0,_,l,_ => Nat.le_refl _
 | k + 1,m,l,p => by
  unfold stas
  by_cases h:0 < m ∧ p.e = 0
  ·rw [if_pos h]
   have:=stas_len k (m - 1) (l ++ [p.sta.1]) p.sta.2
   rw [List.length_append,List.length_singleton] at this
   omega
  ·rw [if_neg h]; exact Nat.le_add_right _ _
end Rt
theorem num_i64 (p:Rt):I64 p.num.1:=by
 obtain ⟨k,_,_,h1,h2⟩:=takeS_size p.text
 exact ⟨h1,h2⟩
theorem headR_ok (b:ByteArray):I64 (headR b).1 ∧ I64 (headR b).2.1 ∧ (headR b).2.2.2.1.ok:=by
 unfold headR
 dsimp only
 exact ⟨num_i64 _,num_i64 _,takeJ_ok _⟩
theorem raw_ok (b:ByteArray) (h:b.size ≤ 140737488355328):(rawSv b).1.Ok:=by
 have hh:=headR_ok b
 unfold rawSv
 generalize headR b = q at *
 dsimp only
 obtain ⟨h1,h2,h3⟩:=hh
 refine ⟨h1,h2,h3, ?_⟩
 have:=Rt.stas_len (b.size + 2) q.2.2.1 [] q.2.2.2.2
 simp only [List.length_nil] at this
 show (Rt.stas (b.size + 2) q.2.2.1 [] q.2.2.2.2).1.length ≤ _
 omega
structure NRowP (B0:Nat) (wx:World) (l:List Nd) (av:Value) (cs:List Value) (ivs svs:Nat → Value):Prop where
 own:wx.ownsRow B0 181 7 av l.length cs
 cells:∀ i (hi:i < l.length),cs[i * 7]? = some (.string (l[i]'hi).uid) ∧ cs[i * 7 + 1]? = some (.int .u8 (l[i]'hi).kind) ∧ cs[i * 7 + 2]? = some (ivs i) ∧ cs[i * 7 + 3]? = some (.int .u8 (l[i]'hi).x.op) ∧ cs[i * 7 + 4]? = some (.int .i64 (l[i]'hi).x.n) ∧ cs[i * 7 + 5]? = some (svs i) ∧ cs[i * 7 + 6]? = some (.int .i64 (l[i]'hi).n)
 sub:∀ i (hi:i < l.length),(l[i]'hi).uid.size ≤ maxLen ∧ InsP wx (fun b => B0 ≤ b ∧ b < wx.heap.size ∧ some b ≠ av.ownBlock) (l[i]'hi).ins (ivs i) ∧ ArgsP wx (fun b => B0 ≤ b ∧ b < wx.heap.size ∧ some b ≠ av.ownBlock) (l[i]'hi).x.args (svs i)
theorem NRowP.nil (B0:Nat) (w:World) (ivs svs:Nat → Value):NRowP B0 w [] (.slice none 0 0) [] ivs svs:=⟨⟨by simp, .inl ⟨rfl,rfl⟩⟩,fun i hi => absurd hi (Nat.not_lt_zero _),fun i hi => absurd hi (Nat.not_lt_zero _)⟩
theorem NRowP.keepB {B0:Nat} {wx wy:World} {l:List Nd} {av:Value} {cs:List Value} {ivs svs:Nat → Value} (h:NRowP B0 wx l av cs ivs svs) (hs:wx.heap.size ≤ wy.heap.size) (hk:∀ b,B0 ≤ b → b < wx.heap.size → wy.heap[b]? = wx.heap[b]?):NRowP B0 wy l av cs ivs svs:=by
 refine ⟨?_,h.cells,fun i hi => ⟨(h.sub i hi).1,(h.sub i hi).2.1.keep (fun b hb => ⟨hb.1,Nat.lt_of_lt_of_le hb.2.1 hs,hb.2.2⟩) (fun b hb => hk b hb.1 hb.2.1),(h.sub i hi).2.2.keep (fun b hb => ⟨hb.1,Nat.lt_of_lt_of_le hb.2.1 hs,hb.2.2⟩) (fun b hb => hk b hb.1 hb.2.1)⟩⟩
 obtain ⟨q1,q2⟩:=h.own
 refine ⟨q1,q2.imp id ?_⟩
 rintro ⟨g,cap,cur,hv,hb,hg,r⟩
 exact ⟨g,cap,cur,hv,hb,(hk g hb (Array.getElem?_eq_some_iff.1 hg).1).trans hg,r⟩
theorem NRowP.nodes {B0 B:Nat} {wx:World} {l:List Nd} {av:Value} {cs:List Value} {ivs svs:Nat → Value} (h:NRowP B0 wx l av cs ivs svs) (hB:wx.heap.size ≤ B):NodesAt wx B l av:=by
 obtain ⟨⟨h1,h2⟩,hc,hs⟩:=h
 rcases h2 with ⟨rfl,h0⟩ | ⟨g,cap,cur,rfl,hb,hg,hn,hcp,hsz,ht⟩
 ·exact ⟨none,0,by rw [h0],by omega,Nat.zero_le _, .inl h0⟩
 ·have hlt:g < wx.heap.size:=(Array.getElem?_eq_some_iff.1 hg).1
  have cell:∀ q,q < l.length * 7 → wx.cell? ⟨g,0 + q,none⟩ = cs[q]? := fun q hq => by
   rw [Nat.zero_add,cell_of_row wx g q cur 181 (0,0) hg, ← ht,List.getElem?_take,if_pos hq]
   simp
  refine ⟨_,cap,rfl,hn,hcp, .inr ⟨g,0,rfl,by omega,fun j hj => ?_⟩⟩
  obtain ⟨c0,c1,c2,c3,c4,c5,c6⟩:=hc j hj
  obtain ⟨s0,s1,s2⟩:=hs j hj
  exact ⟨s0,ivs j,svs j,(cell (j * 7) (by omega)).trans c0,(cell (j * 7 + 1) (by omega)).trans c1,(cell (j * 7 + 2) (by omega)).trans c2,(cell (j * 7 + 3) (by omega)).trans c3,(cell (j * 7 + 4) (by omega)).trans c4,
   (cell (j * 7 + 5) (by omega)).trans c5,(cell (j * 7 + 6) (by omega)).trans c6,s1.sl (fun b hb => Nat.lt_of_lt_of_le hb.2.1 hB),s2.toAt (fun b hb => Nat.lt_of_lt_of_le hb.2.1 hB)⟩
theorem ArgsP.toIn {w:World} {P:Nat → Prop} {l:List Ex} {v:Value} (h:ArgsP w P l v):ArgsIn w P l v:=by
 induction h with
 | nil a cap hm => exact .nil a cap hm
 | cons l b off cap sv hl hb hcap hm h0 h1 h2 _ ih => exact .cons l b off cap sv hl hb hcap hm h0 h1 h2 ih
theorem NRowP.nodesIn {B0:Nat} {wx:World} {l:List Nd} {av:Value} {cs:List Value} {ivs svs:Nat → Value} (h:NRowP B0 wx l av cs ivs svs):NodesIn wx (fun b => B0 ≤ b ∧ b < wx.heap.size) l av:=by
 obtain ⟨⟨h1,h2⟩,hc,hs⟩:=h
 rcases h2 with ⟨rfl,h0⟩ | ⟨g,cap,cur,rfl,hb,hg,hn,hcp,hsz,ht⟩
 ·exact ⟨none,0,by rw [h0],by omega,Nat.zero_le _, .inl h0⟩
 ·have hlt:g < wx.heap.size:=(Array.getElem?_eq_some_iff.1 hg).1
  have cell:∀ q,q < l.length * 7 → wx.cell? ⟨g,0 + q,none⟩ = cs[q]? := fun q hq => by
   rw [Nat.zero_add,cell_of_row wx g q cur 181 (0,0) hg, ← ht,List.getElem?_take,if_pos hq]
   simp
  refine ⟨_,cap,rfl,hn,hcp, .inr ⟨g,0,rfl,⟨hb,hlt⟩,fun j hj => ?_⟩⟩
  obtain ⟨c0,c1,c2,c3,c4,c5,c6⟩:=hc j hj
  obtain ⟨s0,s1,s2⟩:=hs j hj
  exact ⟨s0,ivs j,svs j,(cell (j * 7) (by omega)).trans c0,(cell (j * 7 + 1) (by omega)).trans c1,(cell (j * 7 + 2) (by omega)).trans c2,(cell (j * 7 + 3) (by omega)).trans c3,(cell (j * 7 + 4) (by omega)).trans c4,
   (cell (j * 7 + 5) (by omega)).trans c5,(cell (j * 7 + 6) (by omega)).trans c6,(SlP.of_ins s1).keep (fun b hb => ⟨hb.1,hb.2.1⟩) (fun _ _ => rfl),s2.toIn.mono (fun b hb => ⟨hb.1,hb.2.1⟩)⟩
theorem NRowP.snoc {B0:Nat} {wx w4 w5:World} {l:List Nd} {av:Value} {cs:List Value} {ivs svs:Nat → Value} {g capg:Nat} {y:Nd} {iv sv:Value} {o:Obj} (h:NRowP B0 w4 l av cs ivs svs) (hx:∀ q,av.ownBlock = some q → q < wx.heap.size) (hxs:wx.heap.size ≤ w4.heap.size) (hB:B0 ≤ wx.heap.size)
  (hu:y.uid.size ≤ maxLen) (hi:InsP w4 (fun b => wx.heap.size ≤ b ∧ b < w4.heap.size) y.ins iv) (hy:ArgsP w4 (fun b => wx.heap.size ≤ b ∧ b < w4.heap.size) y.x.args sv) (hg:(w4.alloc o).grownBy w5 av.ownBlock) (hat:av.ownBlock = some g ∨ g = (w4.alloc o).heap.size) (hlt:g < w5.heap.size)
  (hown:w5.ownsRow B0 181 7 (.slice (some ⟨g,0,none⟩) (l.length + 1) capg) (l.length + 1) (cs ++ [.string y.uid, .int .u8 y.kind,iv, .int .u8 y.x.op, .int .i64 y.x.n,sv, .int .i64 y.n])) :
  NRowP B0 w5 (l ++ [y]) (.slice (some ⟨g,0,none⟩) (l.length + 1) capg) (cs ++ [.string y.uid, .int .u8 y.kind,iv, .int .u8 y.x.op, .int .i64 y.x.n,sv, .int .i64 y.n]) (fun i => if i = l.length then iv else ivs i) (fun i => if i = l.length then sv else svs i):=by
 have hl:(l ++ [y]).length = l.length + 1:=by simp
 have hcl:cs.length = l.length * 7:=h.own.1
 have hsz:(w4.alloc o).heap.size = w4.heap.size + 1:=by simp
 have hgs:=hg.size
 have keepB:∀ b,b < w4.heap.size → some b ≠ av.ownBlock → w5.heap[b]? = w4.heap[b]? := fun b hb hn => (hg.block b (by omega) hn).trans (alloc_old w4 o b hb)
 have old:∀ b,(B0 ≤ b ∧ b < w4.heap.size ∧ some b ≠ av.ownBlock) → B0 ≤ b ∧ b < w5.heap.size ∧ some b ≠ (Value.slice (some ⟨g,0,none⟩) (l.length + 1) capg).ownBlock:=fun b hb => ⟨hb.1,by have:=hb.2.1; omega,by
  simp only [Value.ownBlock,ne_eq,Option.some.injEq]
  intro e
  rcases hat with h1 | h1
  ·exact hb.2.2 (by rw [h1,e])
  ·have:=hb.2.1; omega⟩
 have new:∀ b,(wx.heap.size ≤ b ∧ b < w4.heap.size) → B0 ≤ b ∧ b < w5.heap.size ∧ some b ≠ (Value.slice (some ⟨g,0,none⟩) (l.length + 1) capg).ownBlock:=fun b hb => ⟨by have:=hb.1; omega,by have:=hb.2; omega,by
  simp only [Value.ownBlock,ne_eq,Option.some.injEq]
  intro e
  rcases hat with h1 | h1
  ·have:=hx g h1; have:=hb.1; omega
  ·have:=hb.2; omega⟩
 have keepN:∀ b,(wx.heap.size ≤ b ∧ b < w4.heap.size) → w5.heap[b]? = w4.heap[b]? := fun b hb => keepB b hb.2 (fun e => by have:=hx b e.symm; have:=hb.1; omega)
 refine ⟨by rw [hl]; exact hown,fun i hi' => ?_,fun i hi' => ?_⟩
 ·by_cases hil:i < l.length
  ·obtain ⟨c0,c1,c2,c3,c4,c5,c6⟩:=h.cells i hil
   simp only [if_neg (show i ≠ l.length by omega)]
   rw [List.getElem_append_left hil]
   have ap:∀ q u,cs[q]? = some u → (cs ++ [Value.string y.uid, .int .u8 y.kind,iv, .int .u8 y.x.op, .int .i64 y.x.n,sv, .int .i64 y.n])[q]? = some u:=fun q u hq => by
    rw [List.getElem?_append_left (List.getElem?_eq_some_iff.1 hq).1]; exact hq
   exact ⟨ap _ _ c0,ap _ _ c1,ap _ _ c2,ap _ _ c3,ap _ _ c4,ap _ _ c5,ap _ _ c6⟩
  ·obtain rfl:i = l.length:=by omega
   rw [List.getElem_append_right (Nat.le_refl _)]
   have ap:∀ q,(cs ++ [Value.string y.uid, .int .u8 y.kind,iv, .int .u8 y.x.op, .int .i64 y.x.n,sv, .int .i64 y.n])[l.length * 7 + q]? = [Value.string y.uid, .int .u8 y.kind,iv, .int .u8 y.x.op, .int .i64 y.x.n,sv, .int .i64 y.n][q]? := fun q => by
    rw [List.getElem?_append_right (by omega),hcl]; congr 1; omega
   have a0:=ap 0
   rw [Nat.add_zero] at a0
   simp only [Nat.sub_self,List.getElem_cons_zero,if_true]
   exact ⟨a0,ap 1,ap 2,ap 3,ap 4,ap 5,ap 6⟩
 ·by_cases hil:i < l.length
  ·simp only [if_neg (show i ≠ l.length by omega)]
   rw [List.getElem_append_left hil]
   obtain ⟨s0,s1,s2⟩:=h.sub i hil
   exact ⟨s0,s1.keep old (fun b hb => keepB b hb.2.1 hb.2.2),s2.keep old (fun b hb => keepB b hb.2.1 hb.2.2)⟩
  ·obtain rfl:i = l.length:=by omega
   rw [List.getElem_append_right (Nat.le_refl _)]
   simp only [Nat.sub_self,List.getElem_cons_zero,if_true]
   exact ⟨hu,hi.keep new keepN,hy.keep new keepN⟩
namespace St
end St
namespace Rdw
end Rdw
namespace Rdw
end Rdw
end Go.Proofs.YtpkijdkoiecpiaaGreatDoor
