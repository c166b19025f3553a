/-
  Parts of the proof: CB C3 CE O2 O3 O4 CA.
-/
import Derived.Test.YtpkijdkoiecpiaaGreatDoorZR1
import Derived.Test.YtpkijdkoiecpiaaGreatDoorZR2
import Derived.Test.YtpkijdkoiecpiaaGreatDoorZR8
import Derived.Test.YtpkijdkoiecpiaaGreatDoorZR16
import Derived.Test.YtpkijdkoiecpiaaGreatDoorZR19
namespace Go.Proofs.YtpkijdkoiecpiaaGreatDoor
open Go.RowKit
set_option linter.unusedVariables false
set_option linter.unusedSimpArgs false
theorem num_bstr (l:List UInt8):Rd.num ⟨bstr l,0⟩ = ((tkGo 0 0 l).1,⟨bstr (l.drop (tkGo 0 0 l).2.1.toNat),(tkGo 0 0 l).2.2⟩):=by
 unfold Rd.num Rd.cut
 rw [if_pos rfl]
 dsimp only
 rw [takeS_bstr,cut_bstr]
structure Rds {α:Type} (f:Rd → α × Rd) (B:List UInt8) (a:α):Prop where
 ok:∀ rest:List UInt8,f ⟨bstr (B ++ rest),0⟩ = (a,⟨bstr rest,0⟩)
 short:∀ k,k < B.length → (f ⟨bstr (B.take k),0⟩).2.e = 20
def Stk {α:Type} (f:Rd → α × Rd):Prop:=∀ p,p.e ≠ 0 → (f p).2.e = p.e
def Bck {α:Type} (f:Rd → α × Rd) (b:α → List UInt8) (Q:α → Prop):Prop :=
 ∀ p,(f p).2.e = 0 → p.e = 0 ∧ Q (f p).1 ∧ p.s.data.toList = b (f p).1 ++ (f p).2.s.data.toList
def rdBnd {α β:Type} (f:Rd → α × Rd) (g:α → Rd → β × Rd):Rd → β × Rd:=fun p => g (f p).1 (f p).2
def rdRet {α:Type} (a:α):Rd → α × Rd:=fun p => (a,p)
theorem Rds.bnd {α β:Type} {f:Rd → α × Rd} {g:α → Rd → β × Rd} {B C:List UInt8} {a:α} {c:β} (h:Rds f B a) (k:Rds (g a) C c) (hs:∀ a,Stk (g a)):Rds (rdBnd f g) (B ++ C) c where
 ok rest:=by
  unfold rdBnd
  rw [List.append_assoc,h.ok]
  exact k.ok rest
 short n hn:=by
  unfold rdBnd
  by_cases hb:n < B.length
  ·rw [List.take_append_of_le_length (Nat.le_of_lt hb)]
   have e:=h.short n hb
   rw [hs _ _ (by rw [e]; decide)]
   exact e
  ·rw [List.take_append,List.take_of_length_le (by omega:B.length ≤ n),h.ok]
   exact k.short _ (by rw [List.length_append] at hn; omega)
theorem Rds.ret {α:Type} (a:α):Rds (rdRet a) [] a:=⟨fun rest => rfl,fun k hk => absurd hk (Nat.not_lt_zero _)⟩
theorem Stk.bnd {α β:Type} {f:Rd → α × Rd} {g:α → Rd → β × Rd} (h:Stk f) (k:∀ a,Stk (g a)):Stk (rdBnd f g):=fun p hp => by
 unfold rdBnd
 have e:=h p hp
 rw [k _ _ (by rw [e]; exact hp)]
 exact e
theorem Stk.ret {α:Type} (a:α):Stk (rdRet a):=fun p hp => rfl
theorem Rd.fail_of {p:Rd} (h:p.e ≠ 0) (why:Int):p.fail why = p:=by unfold Rd.fail; rw [if_neg h]
theorem Rd.num_err {p:Rd} (h:p.e ≠ 0):p.num = (0,p):=by unfold Rd.num; rw [if_neg h]
theorem num_stk:Stk Rd.num:=fun p hp => by rw [Rd.num_err hp]
theorem many_stk (m:Int):Stk (Rd.many m):=fun p hp => by
 unfold Rd.many
 rw [Rd.num_err hp]
 split
 ·show (p.fail 3).e = p.e; rw [Rd.fail_of hp]
 ·rfl
theorem small_stk:Stk Rd.small:=fun p hp => by
 unfold Rd.small
 rw [Rd.num_err hp]
 dsimp only
 split
 ·rw [Rd.fail_of hp]
 ·rfl
theorem text_stk:Stk Rd.text:=fun p hp => by
 unfold Rd.text
 rw [if_neg hp]
theorem reps_stk {α:Type} {f:Rd → α × Rd} (h:Stk f):∀ m,Stk (reps f m)
 | 0,p,hp => rfl
 | m + 1,p,hp => by
  simp only [reps]
  have e:=h p hp
  rw [reps_stk h m _ (by rw [e]; exact hp)]
  exact e
theorem ex_succ (k:Nat):Rd.ex (k + 1) = rdBnd Rd.small fun o => rdBnd Rd.num fun n => rdBnd (Rd.many 3) fun m => rdBnd (reps (Rd.ex k) m.toNat) fun l => rdRet (.mk o n l):=rfl
theorem ex_stk:∀ k,Stk (Rd.ex k)
 | 0 => fun p hp => by show (p.fail 3).e = _; rw [Rd.fail_of hp]
 | k + 1 => by
  rw [ex_succ]
  exact small_stk.bnd fun _ => num_stk.bnd fun _ => (many_stk 3).bnd fun _ => (reps_stk (ex_stk k) _).bnd fun _ => Stk.ret _
theorem nd_eq:Rd.nd = rdBnd Rd.text fun u => rdBnd Rd.small fun kd => rdBnd Rd.num fun n => rdBnd (Rd.many 12) fun m => rdBnd (reps Rd.num m.toNat) fun ins => rdBnd (Rd.ex 17) fun x => rdRet (⟨u,kd,ins,x,n⟩:Nd):=rfl
theorem nd_stk:Stk Rd.nd:=by
 rw [nd_eq]
 exact text_stk.bnd fun _ => small_stk.bnd fun _ => num_stk.bnd fun _ => (many_stk 12).bnd fun _ => (reps_stk num_stk _).bnd fun _ => (ex_stk 17).bnd fun _ => Stk.ret _
theorem takeNds_stk:∀ m,Stk (takeNds m)
 | 0,p,hp => rfl
 | m + 1,p,hp => by
  simp only [takeNds]
  have e:=nd_stk p hp
  rw [if_pos (by rw [e]; exact hp)]
  exact e
theorem num_rds (n:Int) (h1 : -9223372036854775808 ≤ n) (h2:n ≤ 9223372036854775807):Rds Rd.num (putN n) n where
 ok rest:=by
  rw [num_bstr,take_put n h1 h2 rest]
  simp
 short k hk:=by
  rw [num_bstr,take_short n h1 h2 k hk]
theorem many_rds (m n:Int) (h0:0 ≤ n) (h1:n ≤ m) (hm:m ≤ 1000):Rds (Rd.many m) (putN n) n where
 ok rest:=by
  unfold Rd.many
  rw [(num_rds n (by omega) (by omega)).ok rest,if_neg (by dsimp only; omega)]
 short k hk:=by
  have e:=(num_rds n (by omega) (by omega)).short k hk
  unfold Rd.many
  split
  ·show (Rd.fail _ 3).e = 20
   rw [Rd.fail_of (by rw [e]; decide)]
   exact e
  ·exact e
theorem small_rds (n:Int) (h0:0 ≤ n) (h1:n ≤ 255):Rds Rd.small (putN n) n where
 ok rest:=by
  unfold Rd.small
  rw [(num_rds n (by omega) (by omega)).ok rest]
  dsimp only
  rw [if_neg (by omega),Int.emod_eq_of_lt h0 (by omega)]
 short k hk:=by
  have e:=(num_rds n (by omega) (by omega)).short k hk
  unfold Rd.small
  dsimp only
  split
  ·rw [Rd.fail_of (by rw [e]; decide)]
   exact e
  ·exact e
theorem text_bstr (l:List UInt8):Rd.text ⟨bstr l,0⟩ = ((takeT (bstr l)).1,⟨bstr (l.drop (takeT (bstr l)).2.1.toNat),(takeT (bstr l)).2.2⟩):=by
 unfold Rd.text Rd.cut
 rw [if_pos rfl]
 dsimp only
 rw [cut_bstr]
theorem text_rds (u:ByteArray) (hu:u.size ≤ 65536):Rds Rd.text (txtL u) u where
 ok rest:=by
  have hl:=Lib.size_eq u
  have e:takeS (bstr (txtL u ++ rest)) = ((u.size:Int),((putN (u.size:Int)).length:Int),0):=by
   rw [takeS_bstr]
   unfold txtL
   rw [List.append_assoc]
   exact take_put _ (by omega) (by omega) _
  have hz:(bstr (txtL u ++ rest)).size = (putN (u.size:Int)).length + u.size + rest.length:=by
   rw [bstr_size]; unfold txtL; simp only [List.length_append]; omega
  have e2:takeT (bstr (txtL u ++ rest)) = (u,(((putN (u.size:Int)).length + u.size:Nat):Int),0):=by
   unfold takeT
   rw [e]
   dsimp only
   rw [if_neg (by simp),if_neg (by omega),if_neg (by omega),if_neg (by omega)]
   refine Prod.ext ?_ (Prod.ext ?_ rfl)
   ·dsimp only
    rw [← bstr_of (ByteArray.extract _ _ _),Int.toNat_natCast,Int.toNat_natCast,extract_list,bstr_list]
    unfold txtL
    rw [List.append_assoc,List.drop_left,List.take_left' hl.symm,bstr_of]
   ·dsimp only; omega
  rw [text_bstr,e2]
  dsimp only
  rw [Int.toNat_natCast]
  unfold txtL
  rw [List.drop_left' (by rw [List.length_append,hl])]
 short k hk:=by
  have hl:=Lib.size_eq u
  rw [text_bstr]
  by_cases hb:k < (putN (u.size:Int)).length
  ·have e:takeS (bstr ((txtL u).take k)) = (0,0,20):=by
    rw [takeS_bstr]
    unfold txtL
    rw [List.take_append_of_le_length (Nat.le_of_lt hb)]
    exact take_short _ (by omega) (by omega) k hb
   unfold takeT
   rw [e]
   rfl
  ·have hk2:k < (putN (u.size:Int)).length + u.data.toList.length:=by unfold txtL at hk; rw [List.length_append] at hk; exact hk
   have e:takeS (bstr ((txtL u).take k)) = ((u.size:Int),((putN (u.size:Int)).length:Int),0):=by
    rw [takeS_bstr]
    unfold txtL
    rw [List.take_append,List.take_of_length_le (by omega:(putN (u.size:Int)).length ≤ k)]
    exact take_put _ (by omega) (by omega) _
   have hz:(bstr ((txtL u).take k)).size = k:=by
    rw [bstr_size,List.length_take]; omega
   unfold takeT
   rw [e,hz]
   dsimp only
   rw [if_neg (by simp),if_neg (by omega),if_neg (by omega),if_pos (by omega)]
theorem reps_rds {α:Type} {f:Rd → α × Rd} {b:α → List UInt8} (hs:Stk f):∀ (l:List α),(∀ x ∈ l,Rds f (b x) x) → Rds (reps f l.length) (l.flatMap b) l
 | [],_ => Rds.ret []
 | x :: l,h => by
  have e:reps f (x :: l).length = rdBnd f fun y => rdBnd (reps f l.length) fun m => rdRet (y :: m):=rfl
  have e2:(x :: l).flatMap b = b x ++ (l.flatMap b ++ []):=by simp
  rw [e,e2]
  exact (h x (by simp)).bnd ((reps_rds hs l (fun y hy => h y (by simp [hy]))).bnd (Rds.ret _) fun _ => Stk.ret _) fun _ => (reps_stk hs _).bnd fun _ => Stk.ret _
def fitE:Nat → Ex → Prop
 | 0,_ => False
 | k + 1,x => x.args.length ≤ 3 ∧ ∀ a ∈ x.args,fitE k a
theorem shape_args {x:Ex} (h:shapeB x = true):x.args.length ≤ 3:=by
 have h1:manyN x.op = x.args.length ∧ 0 ≤ x.n ∧ (x.n = 0 ∨ x.op = 1):=of_decide_eq_true h
 have:=h1.1
 unfold manyN at this
 repeat' split at this
 all_goals omega
theorem fit_of_may:∀ (k:Nat) (x:Ex),mayB k x = true → fitE (k + 1) x
 | 0,x,h => by simp [mayB] at h
 | k + 1,x,h => by
  simp only [mayB,Bool.and_eq_true,List.all_eq_true] at h
  exact ⟨shape_args h.1,fun a ha => fit_of_may k a (h.2 a ha)⟩
theorem Exs.by_flat:∀ l:List Ex,Exs.by l = l.flatMap Ex.by
 | [] => rfl
 | x :: l => by simp only [Exs.by,List.flatMap_cons]; rw [Exs.by_flat l]
theorem Exs.ok_mem:∀ {l:List Ex},Exs.ok l → ∀ x ∈ l,x.ok
 | y :: l,h,x,hx => by
  rcases List.mem_cons.1 hx with rfl | hx
  ·exact h.1
  ·exact Exs.ok_mem h.2 x hx
theorem ex_rds:∀ (k:Nat) (x:Ex),fitE k x → x.ok → Rds (Rd.ex k) x.by x
 | 0,x,h,_ => h.elim
 | k + 1,x,h,hok => by
  obtain ⟨h1,h2⟩:=h
  obtain ⟨o1,o2,o3,o4,o5⟩:=Ex.okC hok
  obtain ⟨o,n,l⟩:=x
  have e2:(Ex.mk o n l).by = putN o ++ (putN n ++ (putN (l.length:Int) ++ (l.flatMap Ex.by ++ []))):=by
   simp only [Ex.by,putL,List.flatMap_cons,List.flatMap_nil,List.append_nil,List.append_assoc,Exs.by_flat]
  rw [ex_succ,e2]
  simp only [Ex.args] at h1 h2 o5
  refine (small_rds o o1 o2).bnd ((num_rds n o3 o4).bnd ((many_rds 3 (l.length:Int) (by omega) (by omega) (by omega)).bnd (Rds.bnd (a:=l) ?_ (Rds.ret _) fun _ => Stk.ret _) ?_) ?_) ?_
  ·rw [Int.toNat_natCast]
   exact reps_rds (ex_stk k) l fun a ha => ex_rds k a (h2 a ha) (Exs.ok_mem o5 a ha)
  ·exact fun _ => (reps_stk (ex_stk k) _).bnd fun _ => Stk.ret _
  ·exact fun _ => (many_stk 3).bnd fun _ => (reps_stk (ex_stk k) _).bnd fun _ => Stk.ret _
  ·exact fun _ => num_stk.bnd fun _ => (many_stk 3).bnd fun _ => (reps_stk (ex_stk k) _).bnd fun _ => Stk.ret _
structure NdFit (d:Nd):Prop where
 uid:d.uid.size ≤ 65536
 ins:d.ins.length ≤ 12
 x:fitE 17 d.x
 ok:d.ok
theorem nd_rds (d:Nd) (h:NdFit d):Rds Rd.nd d.by d:=by
 obtain ⟨h1,h2,h3,o1,o2,o3,o4,o5,o6⟩:=h
 obtain ⟨u,kd,ins,x,n⟩:=d
 dsimp only at *
 have e2:(Nd.mk u kd ins x n).by = txtL u ++ (putN kd ++ (putN n ++ (putN (ins.length:Int) ++ (ins.flatMap putN ++ (x.by ++ []))))):=by
  simp only [Nd.by,putL,List.flatMap_cons,List.flatMap_nil,List.append_nil,List.append_assoc]
 rw [nd_eq,e2]
 refine (text_rds u h1).bnd ((small_rds kd o1 o2).bnd ((num_rds n o5 o6).bnd ((many_rds 12 (ins.length:Int) (by omega) (by omega) (by omega)).bnd (Rds.bnd (a:=ins) ?_ ((ex_rds 17 x h3 o4).bnd (Rds.ret _) fun _ => Stk.ret _) ?_) ?_) ?_) ?_) ?_
 ·rw [Int.toNat_natCast]
  exact reps_rds num_stk ins fun z hz => num_rds z (o3 z hz).1 (o3 z hz).2
 ·exact fun _ => (ex_stk 17).bnd fun _ => Stk.ret _
 ·exact fun _ => (reps_stk num_stk _).bnd fun _ => (ex_stk 17).bnd fun _ => Stk.ret _
 ·exact fun _ => (many_stk 12).bnd fun _ => (reps_stk num_stk _).bnd fun _ => (ex_stk 17).bnd fun _ => Stk.ret _
 ·exact fun _ => num_stk.bnd fun _ => (many_stk 12).bnd fun _ => (reps_stk num_stk _).bnd fun _ => (ex_stk 17).bnd fun _ => Stk.ret _
 ·exact fun _ => small_stk.bnd fun _ => num_stk.bnd fun _ => (many_stk 12).bnd fun _ => (reps_stk num_stk _).bnd fun _ => (ex_stk 17).bnd fun _ => Stk.ret _
theorem takeNds_rds:∀ (l:List Nd),(∀ d ∈ l,NdFit d) → Rds (takeNds l.length) (nodesBy l) l
 | [],_ => ⟨fun rest => rfl,fun k hk => absurd hk (Nat.not_lt_zero _)⟩
 | d :: l,h => by
  have h1:=nd_rds d (h d (by simp))
  have h2:=takeNds_rds l (fun e he => h e (by simp [he]))
  have e:nodesBy (d :: l) = d.by ++ nodesBy l:=rfl
  refine ⟨fun rest => ?_,fun k hk => ?_⟩
  ·rw [e,List.append_assoc,List.length_cons]
   simp only [takeNds]
   rw [h1.ok,if_neg (by simp)]
   dsimp only
   rw [h2.ok]
  ·rw [e] at hk ⊢
   rw [List.length_cons]
   simp only [takeNds]
   by_cases hb:k < d.by.length
   ·rw [List.take_append_of_le_length (Nat.le_of_lt hb)]
    have e:=h1.short k hb
    rw [if_pos (by rw [e]; decide)]
    exact e
   ·rw [List.take_append,List.take_of_length_le (by omega:d.by.length ≤ k),h1.ok,if_neg (by simp)]
    exact h2.short _ (by rw [List.length_append] at hk; omega)
theorem num_bck:Bck Rd.num putN (fun n => -9223372036854775808 ≤ n ∧ n ≤ 9223372036854775807):=fun p h => by
 by_cases hp:p.e = 0
 ·unfold Rd.num at h ⊢
  rw [if_pos hp] at h ⊢
  dsimp only at h ⊢
  have e:tkGo 0 0 p.s.data.toList = ((takeS p.s).1,(takeS p.s).2.1,0):=by rw [← h]; rfl
  obtain ⟨k,h1,h2,_,h4,h5,h6⟩:=take_back e
  refine ⟨hp,⟨h5,h6⟩, ?_⟩
  unfold Rd.cut
  rw [h1,Int.toNat_natCast,cut_list, ← h4,List.take_append_drop]
 ·rw [Rd.num_err hp] at h
  exact absurd h hp
theorem fail_pos {p:Rd} {why:Int} (hw:why ≠ 0):(p.fail why).e ≠ 0:=by
 unfold Rd.fail
 split
 ·exact hw
 ·assumption
theorem many_bck (m:Int):Bck (Rd.many m) putN (fun n => 0 ≤ n ∧ n ≤ m):=fun p h => by
 unfold Rd.many at h ⊢
 split at h
 ·exact absurd h (fail_pos (by decide))
 ·rename_i hc
  rw [if_neg hc]
  obtain ⟨h0,_,h2⟩:=num_bck p h
  exact ⟨h0,⟨by omega,by omega⟩,h2⟩
theorem small_bck:Bck Rd.small putN (fun n => 0 ≤ n ∧ n ≤ 255):=fun p h => by
 unfold Rd.small at h ⊢
 dsimp only at h ⊢
 split at h
 ·exact absurd h (fail_pos (by decide))
 ·rename_i hc
  rw [if_neg hc]
  obtain ⟨h0,_,h2⟩:=num_bck p h
  have e:p.num.1 % 256 = p.num.1:=Int.emod_eq_of_lt (by omega) (by omega)
  rw [e]
  exact ⟨h0,⟨by omega,by omega⟩,h2⟩
theorem text_bck:Bck Rd.text txtL (fun u => u.size ≤ 65536):=fun p h => by
 by_cases hp:p.e = 0
 ·unfold Rd.text at h ⊢
  rw [if_pos hp] at h ⊢
  dsimp only at h ⊢
  unfold takeT at h ⊢
  by_cases e0:(takeS p.s).2.2 = 0
  ·rw [if_neg (by simpa using e0)] at h ⊢
   by_cases e1:(takeS p.s).1 < 0
   ·rw [if_pos e1] at h; exact absurd h (by decide)
   rw [if_neg e1] at h ⊢
   by_cases e2:65536 < (takeS p.s).1
   ·rw [if_pos e2] at h; exact absurd h (by decide)
   rw [if_neg e2] at h ⊢
   by_cases e3:(p.s.size:Int) < (takeS p.s).2.1 + (takeS p.s).1
   ·rw [if_pos e3] at h; exact absurd h (by decide)
   rw [if_neg e3]
   dsimp only
   have e:tkGo 0 0 p.s.data.toList = ((takeS p.s).1,(takeS p.s).2.1,0):=by rw [← e0]; rfl
   obtain ⟨k,h1,h2,_,h4,h5,h6⟩:=take_back e
   obtain ⟨n,hn⟩:∃ n:Nat,(takeS p.s).1 = (n:Int):=⟨(takeS p.s).1.toNat,by omega⟩
   rw [hn] at h4
   rw [h1,hn] at e3 ⊢
   have hl:=Lib.size_eq p.s
   have hz:(p.s.extract k (k + n)).size = n:=by rw [ByteArray.size_extract]; omega
   refine ⟨hp, ?_, ?_⟩
   ·rw [Int.toNat_natCast,Int.toNat_natCast,hz]; omega
   ·unfold Rd.cut txtL
    rw [Int.toNat_natCast,Int.toNat_natCast,hz,extract_list, ← h4,show ((k:Int) + (n:Int)).toNat = k + n by omega,cut_list,List.append_assoc, ← List.drop_drop,List.take_append_drop,List.take_append_drop]
  ·rw [if_pos e0] at h
   exact absurd h e0
 ·unfold Rd.text at h
  rw [if_neg hp] at h
  exact absurd h hp
theorem reps_bck {α:Type} {f:Rd → α × Rd} {b:α → List UInt8} {Q:α → Prop} (h:Bck f b Q):∀ m,Bck (reps f m) (fun l => l.flatMap b) (fun l => l.length = m ∧ ∀ x ∈ l,Q x)
 | 0,p,hp => ⟨hp,⟨rfl,fun x hx => by cases hx⟩,rfl⟩
 | m + 1,p,hp => by
  simp only [reps] at hp ⊢
  obtain ⟨h1,⟨h2,h3⟩,h4⟩:=reps_bck h m _ hp
  obtain ⟨g1,g2,g3⟩:=h p h1
  refine ⟨g1,⟨by rw [List.length_cons,h2],fun x hx => ?_⟩, ?_⟩
  ·rcases List.mem_cons.1 hx with rfl | hx
   ·exact g2
   ·exact h3 x hx
  ·rw [g3,h4,List.flatMap_cons,List.append_assoc]
theorem exs_ok_of:∀ {l:List Ex},(∀ x ∈ l,x.ok) → Exs.ok l
 | [],_ => trivial
 | y :: l,h => ⟨h y (by simp),exs_ok_of fun x hx => h x (by simp [hx])⟩
theorem ex_bck:∀ k,Bck (Rd.ex k) Ex.by Ex.ok
 | 0,p,h => absurd h (fail_pos (by decide))
 | k + 1,p,h => by
  simp only [Rd.ex] at h ⊢
  obtain ⟨h3,⟨q3,r3⟩,e3⟩:=reps_bck (ex_bck k) _ _ h
  obtain ⟨h2,q2,e2⟩:=many_bck 3 _ h3
  obtain ⟨h1,q1,e1⟩:=num_bck _ h2
  obtain ⟨h0,q0,e0⟩:=small_bck _ h1
  refine ⟨h0,⟨q0.1,q0.2,q1.1,q1.2,exs_ok_of r3⟩, ?_⟩
  have hl:(((reps (Rd.ex k) (p.small.2.num.2.many 3).1.toNat (p.small.2.num.2.many 3).2).1.length:Nat):Int) = (p.small.2.num.2.many 3).1:=by rw [q3]; omega
  rw [e0,e1,e2,e3]
  simp only [Ex.by,putL,List.flatMap_cons,List.flatMap_nil,List.append_nil,List.append_assoc,Exs.by_flat,hl]
theorem nd_bck:Bck Rd.nd Nd.by (fun d => d.ok ∧ d.uid.size ≤ 65536):=fun p h => by
 have h':(Rd.ex 17 (reps Rd.num p.nd3.1.toNat p.nd3.2).2).2.e = 0:=h
 obtain ⟨h5,q5,e5⟩:=ex_bck 17 _ h'
 obtain ⟨h4,⟨q4,r4⟩,e4⟩:=reps_bck num_bck _ _ h5
 obtain ⟨h3,q3,e3⟩:=many_bck 12 _ h4
 obtain ⟨h2,q2,e2⟩:=num_bck _ h3
 obtain ⟨h1,q1,e1⟩:=small_bck _ h2
 obtain ⟨h0,q0,e0⟩:=text_bck _ h1
 refine ⟨h0,⟨⟨q1.1,q1.2,r4,q5,q2.1,q2.2⟩,q0⟩, ?_⟩
 have hl:(((reps Rd.num p.nd3.1.toNat p.nd3.2).1.length:Nat):Int) = p.nd3.1:=by rw [q4]; have:=q3.1; exact Int.toNat_of_nonneg this
 have e3':p.text.2.small.2.num.2.s.data.toList = putN p.nd3.1 ++ p.nd3.2.s.data.toList:=e3
 rw [e0,e1,e2,e3',e4,e5]
 show _ = Nd.by ⟨p.text.1,p.text.2.small.1,(reps Rd.num p.nd3.1.toNat p.nd3.2).1,(Rd.ex 17 (reps Rd.num p.nd3.1.toNat p.nd3.2).2).1,p.text.2.small.2.num.1⟩ ++ (Rd.ex 17 (reps Rd.num p.nd3.1.toNat p.nd3.2).2).2.s.data.toList
 simp only [Nd.by,putL,List.flatMap_cons,List.flatMap_nil,List.append_nil,List.append_assoc,hl]
theorem takeNds_bck:∀ m,Bck (takeNds m) nodesBy (fun l => l.length = m ∧ ∀ d ∈ l,d.ok ∧ d.uid.size ≤ 65536)
 | 0,p,hp => ⟨hp,⟨rfl,fun x hx => by cases hx⟩,rfl⟩
 | m + 1,p,hp => by
  simp only [takeNds] at hp ⊢
  by_cases hn:p.nd.2.e = 0
  ·rw [if_neg (by simpa using hn)] at hp ⊢
   obtain ⟨h1,⟨h2,h3⟩,h4⟩:=takeNds_bck m _ hp
   obtain ⟨g1,g2,g3⟩:=nd_bck p h1
   refine ⟨g1,⟨by rw [List.length_cons,h2],fun x hx => ?_⟩, ?_⟩
   ·rcases List.mem_cons.1 hx with rfl | hx
    ·exact g2
    ·exact h3 x hx
   ·rw [g3,h4]
    show _ = (p.nd.1 :: (takeNds m p.nd.2).1).flatMap Nd.by ++ _
    rw [List.flatMap_cons,List.append_assoc]
    rfl
  ·rw [if_pos hn] at hp
   exact absurd hp hn
def takeJ (s:ByteArray):Jb × Int :=
 let r:=Rd.jb s
 let p:=if r.2.s.size = 0 then r.2 else r.2.fail 2
 let q:=if r.1.may.2 = 0 then p else p.fail 2
 if q.e = 0 then (r.1,0) else (⟨0,[]⟩,q.e)
theorem jb_rds (j:Jb) (hok:j.ok) (hn:j.nodes.length ≤ 12) (hf:∀ d ∈ j.nodes,NdFit d) :
  (∀ rest,Rd.jb (bstr (j.by ++ rest)) = (j,⟨bstr rest,0⟩)) ∧ ∀ k,k < j.by.length → (Rd.jb (bstr (j.by.take k))).2.e = 20:=by
 have e:∀ s,Rd.jb s = rdBnd Rd.num (fun p => rdBnd (Rd.many 12) fun m => rdBnd (takeNds m.toNat) fun l => rdRet (⟨p,l⟩:Jb)) ⟨s,0⟩:=fun s => rfl
 have e2:j.by = putN j.par ++ (putN (j.nodes.length:Int) ++ (nodesBy j.nodes ++ [])):=by
  simp only [Jb.by,putL,List.flatMap_cons,List.flatMap_nil,List.append_nil,List.append_assoc]
 have h:Rds (rdBnd Rd.num fun p => rdBnd (Rd.many 12) fun m => rdBnd (takeNds m.toNat) fun l => rdRet (⟨p,l⟩:Jb)) j.by j:=by
  rw [e2]
  refine (num_rds j.par hok.1 hok.2.1).bnd ((many_rds 12 (j.nodes.length:Int) (by omega) (by omega) (by omega)).bnd (Rds.bnd (a:=j.nodes) ?_ (Rds.ret j) fun _ => Stk.ret _) ?_) ?_
  ·rw [Int.toNat_natCast]
   exact takeNds_rds j.nodes hf
  ·exact fun _ => (takeNds_stk _).bnd fun _ => Stk.ret _
  ·exact fun _ => (many_stk 12).bnd fun _ => (takeNds_stk _).bnd fun _ => Stk.ret _
 exact ⟨fun rest => by rw [e]; exact h.ok rest,fun k hk => by rw [e]; exact h.short k hk⟩
theorem jb_bck (s:ByteArray) (h:(Rd.jb s).2.e = 0):(Rd.jb s).1.ok ∧ (∀ d ∈ (Rd.jb s).1.nodes,d.uid.size ≤ 65536) ∧ s.data.toList = (Rd.jb s).1.by ++ (Rd.jb s).2.s.data.toList:=by
 have h':(takeNds ((Rd.num ⟨s,0⟩).2.many 12).1.toNat ((Rd.num ⟨s,0⟩).2.many 12).2).2.e = 0:=h
 obtain ⟨h2,⟨q2,r2⟩,e2⟩:=takeNds_bck _ _ h'
 obtain ⟨h1,q1,e1⟩:=many_bck 12 _ h2
 obtain ⟨_,q0,e0⟩:=num_bck _ h1
 refine ⟨⟨q0.1,q0.2,fun d hd => (r2 d hd).1⟩,fun d hd => (r2 d hd).2, ?_⟩
 have hl:(((takeNds ((Rd.num ⟨s,0⟩).2.many 12).1.toNat ((Rd.num ⟨s,0⟩).2.many 12).2).1.length:Nat):Int) = ((Rd.num ⟨s,0⟩).2.many 12).1:=by rw [q2]; exact Int.toNat_of_nonneg q1.1
 have e0':s.data.toList = putN (Rd.num ⟨s,0⟩).1 ++ (Rd.num ⟨s,0⟩).2.s.data.toList:=e0
 rw [e0',e1,e2]
 show _ = Jb.by ⟨(Rd.num ⟨s,0⟩).1,(takeNds ((Rd.num ⟨s,0⟩).2.many 12).1.toNat ((Rd.num ⟨s,0⟩).2.many 12).2).1⟩ ++ (takeNds ((Rd.num ⟨s,0⟩).2.many 12).1.toNat ((Rd.num ⟨s,0⟩).2.many 12).2).2.s.data.toList
 simp only [Jb.by,putL,List.flatMap_cons,List.flatMap_nil,List.append_nil,List.append_assoc,hl]
theorem bstr_nil_size {l:List UInt8}:(bstr l).size = 0 ↔ l = []:=by rw [bstr_size]; exact List.length_eq_zero_iff
theorem takeJ_back (s:ByteArray) (h:(takeJ s).2 = 0):(takeJ s).1.ok ∧ (∀ d ∈ (takeJ s).1.nodes,d.uid.size ≤ 65536) ∧ (takeJ s).1.may.2 = 0 ∧ s = bstr (takeJ s).1.by:=by
 unfold takeJ at h ⊢
 dsimp only at h ⊢
 by_cases hm:(Rd.jb s).1.may.2 = 0
 ·rw [if_pos hm] at h ⊢
  by_cases hz:(Rd.jb s).2.s.size = 0
  ·rw [if_pos hz] at h ⊢
   by_cases he:(Rd.jb s).2.e = 0
   ·rw [if_pos he] at h ⊢
    obtain ⟨h1,h2,h3⟩:=jb_bck s he
    refine ⟨h1,h2,hm, ?_⟩
    have h0:(Rd.jb s).2.s.data.toList = []:=List.length_eq_zero_iff.1 (by rw [← Lib.size_eq]; exact hz)
    dsimp only
    rw [h0,List.append_nil] at h3
    rw [← h3,bstr_of]
   ·rw [if_neg he] at h
    exact absurd h he
  ·rw [if_neg hz,if_neg (fail_pos (by decide))] at h
   exact absurd h (fail_pos (by decide))
 ·rw [if_neg hm,if_neg (fail_pos (by decide))] at h
  exact absurd h (fail_pos (by decide))
theorem takeJ_err (s:ByteArray) (h:(takeJ s).2 ≠ 0):(takeJ s).1 = ⟨0,[]⟩:=by
 have e:∀ q:Rd,(if q.e = 0 then ((Rd.jb s).1,(0:Int)) else (⟨0,[]⟩,q.e)).2 ≠ 0 → (if q.e = 0 then ((Rd.jb s).1,(0:Int)) else (⟨0,[]⟩,q.e)).1 = ⟨0,[]⟩:=fun q h => by
  by_cases hq:q.e = 0
  ·rw [if_pos hq] at h; exact absurd rfl h
  ·rw [if_neg hq]
 exact e _ h
theorem putLit_c (zs:List Int) (m:Nat) (cs:Array Value) (hcs:cs.toList = zs.map (Value.int .i64)) (hm:zs.length = m) (hr:∀ z ∈ zs, -9223372036854775808 ≤ z ∧ z ≤ 9223372036854775807) (hl:m ≤ 1000) (W:World) :
  Calls Tryz.prog 99 #[.slice (some ⟨W.heap.size,0,none⟩) m m] (W.alloc (.cells cs 2)) fun e w' => e = .returned (.string (bstr (putL zs))) ∧ Below W.heap.size W w':=by
 have hsz:cs.size = m:=by rw [← Array.length_toList,hcs,List.length_map,hm]
 have hsl:Sl (W.alloc (.cells cs 2)) (W.alloc (.cells cs 2)).heap.size 1 (.slice (some ⟨W.heap.size,0,none⟩) m m) m (zs.map (Value.int .i64)) :=
  ⟨by rw [List.length_map,hm]; omega,_,m,rfl,Nat.le_refl _,by unfold maxLen; omega, .inr ⟨W.heap.size,0,rfl,by simp,fun j hj => by
   rw [Nat.zero_add,(Blk.new W cs 2).cell j, ← hcs]
   simp⟩⟩
 refine (PutB_c zs m _ _ _ hsl hm (Nat.le_refl _) hr hl).mono ?_
 rintro e w1 ⟨rfl,hb1⟩
 exact ⟨rfl,((Below.refl W.heap.size W).alloc (Nat.le_refl _) _).trans (hb1.mono (by simp))⟩
theorem ArgsAt.across {a b w:World} {B:Nat} {l:List Ex} {v:Value} (h:ArgsAt a B l v) (h1:Below B w a) (h2:Below B w b):ArgsAt b B l v:=by
 induction h with
 | nil a cap hm => exact .nil a cap hm
 | cons l b off cap sv hl hb hcap hm q0 q1 q2 _ ih =>
  have e:∀ o,World.cell? _ ⟨b,o,none⟩ = World.cell? _ ⟨b,o,none⟩:=fun o => (h2.cell (p:=⟨b,o,none⟩) hb).trans (h1.cell (p:=⟨b,o,none⟩) hb).symm
  exact .cons l b off cap sv hl hb hcap hm (fun j h => (e _).trans (q0 j h)) (fun j h => (e _).trans (q1 j h)) (fun j h => (e _).trans (q2 j h)) ih
theorem nodesBy_take (l:List Nd) (k:Nat) (hk:k < l.length):nodesBy (l.take (k + 1)) = nodesBy (l.take k) ++ (l[k]'hk).by:=by
 unfold nodesBy
 rw [List.take_succ_eq_append_getElem hk,List.flatMap_append,List.flatMap_cons,List.flatMap_nil,List.append_nil]
theorem nodesBy_len (l:List Nd) (h:∀ d ∈ l,NdSmall d) (hok:∀ d ∈ l,d.ok):(nodesBy l).length ≤ 40000 * l.length:=by
 induction l with
 | nil => simp [nodesBy]
 | cons d l ih =>
  have h1:=ih (fun e he => h e (by simp [he])) (fun e he => hok e (by simp [he]))
  have h2:=Nd.by_len (h d (by simp)) (hok d (by simp))
  have e:nodesBy (d :: l) = d.by ++ nodesBy l:=rfl
  rw [e,List.length_append,List.length_cons]
  omega
def Jb.putR (j:Jb):List UInt8 × Int:=if j.may.2 = 0 then (j.by,0) else ([],2)
set_option maxRecDepth 100000 in
set_option maxHeartbeats 8000000 in
theorem PackPut_c (jb:Jb) (hok:jb.ok) (v:Value) (B:Nat) (w:World) (hv:JbAt w B v jb) (hB:B ≤ w.heap.size) :
  Calls Tryz.prog 98 #[v] w fun e w' => e = .returned (.tuple #[.string (bstr jb.putR.1), .int .i64 jb.putR.2]) ∧ Below w.heap.size w w':=by
 have HV:=Lib.hid hv
 obtain ⟨sv,rfl,hs⟩:=hv
 obtain ⟨a,cap,rfl,hcap,hmx⟩:=hs.slice
 have HS:=Lib.hid hs
 have hK:=(KB.start w).push #[.int .i64 jb.par, .slice a jb.nodes.length cap] 26
 have HMY:Hid (∀ W,Below w.heap.size w W → Calls Tryz.prog 64 #[.agg #[.int .i64 jb.par, .slice a jb.nodes.length cap]] W fun e w' => e = .returned (.tuple #[.int .i64 jb.may.1, .int .i64 jb.may.2]) ∧ Below W.heap.size W w'):=fun W h => May_c1 jb _ B W (HV.out.keep (h.mono hB)) (Nat.le_trans hB h.size)
 have HE:Hid (jb.putR = if jb.may.2 = 0 then (jb.by,0) else ([],2)):=rfl
 have HGS:=Lib.hid (fun h => good_small hok h)
 have HNO:=Lib.hid hok.2.2
 have HBE:Hid (jb.by = putL [jb.par,(jb.nodes.length:Int)] ++ nodesBy jb.nodes):=rfl
 generalize jb.putR = R at *
 generalize jb.may = m at *
 obtain ⟨m1,m2⟩:=m
 dsimp only at HMY HE HGS
 generalize jb.by = jby at *
 generalize jb.par = jp at *
 generalize jb.nodes = nds at *
 clear hs hcap hok
 by_cases hm:m2 = 0
 ·obtain ⟨hsm,hn12,hp1,hp2⟩:=HGS.out hm
  have hm':(m2 != 0) = false:=by rw [hm]; rfl
  have HR:Hid (R = (jby,0)):=by show _ = _; rw [HE.out,if_pos hm]
  have HSM:=Lib.hid hsm
  have HPR:Hid (∀ z ∈ [jp,(nds.length:Int)], -9223372036854775808 ≤ z ∧ z ≤ 9223372036854775807):=by
   intro z hz
   simp only [List.mem_cons,List.not_mem_nil,or_false] at hz
   rcases hz with rfl | rfl <;> omega
  have HNL:Hid (∀ k,k ≤ nds.length → (nodesBy (nds.take k)).length ≤ 480000):=fun k hk => by
   have:=nodesBy_len (nds.take k) (fun e he => hsm e (List.mem_of_mem_take he)) (fun e he => HNO.out e (List.mem_of_mem_take he))
   have h2:(nds.take k).length ≤ 12:=by rw [List.length_take]; omega
   omega
  have hpl:=putL_len [jp,(nds.length:Int)] HPR.out
  generalize hP:putL [jp,(nds.length:Int)] = P at *
  have HP:=Lib.hid hP
  clear hP
  clear hsm HE HGS
  go_enter Tryz.func98,Tryz.ntmps98
  go_upto_region 1 with fail
  generalize World.alloc w _ = W at *
  have p0:=hK.hd.cell 0
  have p1:=hK.hd.cell 1
  go_wp2_with fail
  refine (HMY.out W hK.below).mono ?_
  rintro e w1 ⟨rfl,hq⟩
  replace hK:=hK.keep hq
  clear p0 p1 hq
  have p0:=hK.hd.cell 0
  have p1:=hK.hd.cell 1
  go_wp2_with fail
  refine (putLit_c [jp,(nds.length:Int)] 2 _ rfl rfl HPR.out (by omega) _).mono ?_
  rintro e w2 ⟨rfl,hq⟩
  replace hK:=hK.keep hq
  rw [HP.out]
  clear p0 p1 hq
  have p0:=hK.hd.cell 0
  have p1:=hK.hd.cell 1
  have hPe:bstr P = bstr (P ++ nodesBy (nds.take 0)):=by simp [nodesBy]
  rw [hPe]
  clear hPe
  go_wp2_with fail
  have hb2:=hK.below
  clear p0 p1 hK
  go_loopw [6,30] (fun s q wr => ∃ k:Nat,q = .int .i64 k ∧ k ≤ nds.length ∧ s = .string (bstr (P ++ nodesBy (nds.take k))) ∧ Below w.heap.size w wr) (fun _ q _ => nds.length - (intOf q).toNat)
  case atStart => exact ⟨0,rfl,Nat.zero_le _,rfl,hb2⟩
  case round =>
   obtain ⟨k,rfl,hk,rfl,hBr⟩:=hrel
   by_cases hlt:k < nds.length
   ·obtain ⟨b,off,cp,e1,hb,hu,iv,sv,c0,c1,c2,c3,c4,c5,c6,hin⟩:=((HS.out.mono hB).keep hBr).at_ k hlt
    simp only [Value.slice.injEq,true_and] at e1
    obtain ⟨rfl,rfl⟩:=e1
    obtain ⟨a2,cap2,rfl,_,_⟩:=hin.2.slice
    obtain ⟨_,ai,capi,rfl,_,hmi,hrest⟩:=id hin.1
    clear hrest
    have hd:=HSM.out _ (List.getElem_mem hlt)
    have hdok:=HNO.out _ (List.getElem_mem hlt)
    have HTK:=Lib.hid (nodesBy_take nds k hlt)
    have hnl:=HNL.out k hk
    have hnl2:=HNL.out (k + 1) (by omega)
    rw [HTK.out,List.length_append] at hnl2
    generalize nds[k] = d at *
    have HDB:Hid (d.by = txtL d.uid ++ putL [d.kind,d.n,(d.ins.length:Int)] ++ putL d.ins ++ d.x.by):=rfl
    have hus:=hd.uid
    have hii:=hd.ins
    have hxl:=hd.x
    obtain ⟨k1,k2,k3,k4,k5,k6⟩:=hdok
    have HIO:=Lib.hid k3
    have HXO:=Lib.hid k4
    have hpi:=putL_len d.ins k3
    have HP3:Hid (∀ z ∈ [d.kind,d.n,(d.ins.length:Int)], -9223372036854775808 ≤ z ∧ z ≤ 9223372036854775807):=by
     intro z hz
     simp only [List.mem_cons,List.not_mem_nil,or_false] at hz
     rcases hz with rfl | rfl | rfl <;> omega
    have hp3:=putL_len [d.kind,d.n,(d.ins.length:Int)] HP3.out
    have htx:(txtL d.uid).length ≤ 200:=by
     have h6:=putN_len (d.uid.size:Int) (by omega) (by omega)
     have h7:=Lib.size_eq d.uid
     unfold txtL
     rw [List.length_append]
     omega
    have HI1:=Lib.hid hin.1
    have HI2:=Lib.hid hin.2
    clear hin hd k3 k4
    have HTT:Hid (∀ W:World,Calls Tryz.prog 117 #[.string d.uid] W fun e w' => e = .returned (.tuple #[.string (bstr (txtL d.uid)), .int .i64 0]) ∧ Below W.heap.size W w'):=fun W => PutText_c d.uid (by omega) W
    generalize nodesBy (nds.take k) = N0 at *
    generalize hdx:d.x = x at *
    generalize hdi:d.ins = ins at *
    generalize hdn:d.n = dn at *
    generalize hdk:d.kind = dk at *
    generalize hdu:d.uid = u at *
    generalize txtL u = tu at *
    generalize d.by = dby at *
    clear hdx hdi hdn hdk hdu hu
    have hil:ins.length ≤ 9223372036854775807:=by omega
    have hK:=(⟨hBr,by simp⟩:KB w wr []).push #[.string u, .int .u8 dk, .slice ai ins.length capi, .int .u8 x.op, .int .i64 x.n, .slice a2 x.args.length cap2, .int .i64 dn] 181
    go_upto_region 8 with fail
    generalize hnb:wr.heap.size = nb at *
    generalize hw7:wr.alloc (.cells #[.string u, .int .u8 dk, .slice ai ins.length capi, .int .u8 x.op, .int .i64 x.n, .slice a2 x.args.length cap2, .int .i64 dn] 181) = W7 at *
    clear c0 c1 c2 c3 c4 c5 c6
    have p0:=hK.hd.cell 0
    have p1:=hK.hd.cell 1
    have p2:=hK.hd.cell 2
    have p3:=hK.hd.cell 3
    have p4:=hK.hd.cell 4
    have p5:=hK.hd.cell 5
    have p6:=hK.hd.cell 6
    go_wp2_with fail
    refine (HTT.out _).mono ?_
    rintro e w3 ⟨rfl,hq⟩
    replace hK:=hK.keep hq
    clear hq p0 p1 p2 p3 p4 p5 p6
    have hs0:=bstr_size (P ++ N0)
    rw [List.length_append] at hs0
    have hst:=bstr_size tu
    have hs3:=bstr_size (putL [dk,dn,(ins.length:Int)])
    have HC3:=Lib.hid (putLit_c [dk,dn,(ins.length:Int)] 3 #[.int .i64 dk, .int .i64 dn, .int .i64 (ins.length:Int)] rfl rfl HP3.out (by omega))
    have HA1:Hid (bstr (P ++ N0) ++ (bstr tu ++ bstr (putL [dk,dn,(ins.length:Int)])) = bstr ((P ++ N0) ++ (tu ++ putL [dk,dn,(ins.length:Int)]) ++ putL (ins.take 0))):=by
     show _ = _
     rw [bstr_app,bstr_app]
     simp [putL]
    have hl3:[dk,dn,(ins.length:Int)].length = 3:=rfl
    rw [hl3] at hp3
    have hl2:[jp,(nds.length:Int)].length = 2:=rfl
    have hpl2:P.length ≤ 20:=by rw [hl2] at hpl; omega
    generalize putL [dk,dn,(ins.length:Int)] = q3 at *
    generalize hX0:(P ++ N0) ++ (tu ++ q3) = X0 at *
    have HX0:=Lib.hid hX0
    have hX0l:X0.length ≤ 480000 + 20 + 200 + 30:=by rw [← hX0,List.length_append,List.length_append,List.length_append]; omega
    clear hX0
    generalize bstr (P ++ N0) = S0 at *
    generalize bstr tu = ST at *
    generalize bstr q3 = S3 at *
    have p0:=hK.hd.cell 0
    have p1:=hK.hd.cell 1
    have p2:=hK.hd.cell 2
    have p3:=hK.hd.cell 3
    have p4:=hK.hd.cell 4
    have p5:=hK.hd.cell 5
    have p6:=hK.hd.cell 6
    go_wp2_with fail
    refine (HC3.out _).mono ?_
    rintro e w4 ⟨rfl,hq⟩
    replace hK:=hK.keep hq
    clear hq p0 p1 p2 p3 p4 p5 p6
    have p0:=hK.hd.cell 0
    have p1:=hK.hd.cell 1
    have p2:=hK.hd.cell 2
    have p3:=hK.hd.cell 3
    have p4:=hK.hd.cell 4
    have p5:=hK.hd.cell 5
    have p6:=hK.hd.cell 6
    go_upto_region 10 with fail
    rw [HA1.out]
    go_wp2_with fail
    clear p0 p1 p2 p3 p4 p5 p6
    go_loopw [6,57] (fun s q wx => ∃ j:Nat,q = .int .i64 j ∧ j ≤ ins.length ∧ s = .string (bstr (X0 ++ putL (ins.take j))) ∧ KB w wx [(nb,181,#[.string u, .int .u8 dk, .slice ai ins.length capi, .int .u8 x.op, .int .i64 x.n, .slice a2 x.args.length cap2, .int .i64 dn])]) (fun _ q _ => ins.length - (intOf q).toNat)
    case atStart => exact ⟨0,rfl,Nat.zero_le _,rfl,hK⟩
    case round =>
     obtain ⟨j,rfl,hj,rfl,hKx⟩:=hrel
     by_cases hjl:j < ins.length
     ·obtain ⟨bi,oi,ci,e2,hbi,hjl',d0⟩:=(HI1.out.across hBr hKx.below).int j hjl
      simp only [Value.slice.injEq,true_and] at e2
      obtain ⟨rfl,rfl⟩:=e2
      have HTI:=Lib.hid (putL_take ins j hjl')
      have hzr:=HIO.out _ (List.getElem_mem hjl')
      have hbj:(putL (ins.take j)).length ≤ 30:=by
       have:=putL_len (ins.take j) (fun y hy => HIO.out y (List.mem_of_mem_take hy))
       have h2:(ins.take j).length ≤ 3:=by rw [List.length_take]; omega
       omega
      generalize ins[j] = z at *
      have HCZ:=Lib.hid (putLit_c [z] 1 #[.int .i64 z] rfl rfl (by intro y hy; simp at hy; subst hy; exact hzr) (by omega))
      have hz1:(putL [z]).length ≤ 10:=putL_len [z] (by intro y hy; simp at hy; subst hy; exact hzr)
      have hse:=bstr_size (X0 ++ putL (ins.take j))
      rw [List.length_append] at hse
      have hsz:=bstr_size (putL [z])
      have HAZ:Hid (bstr (X0 ++ putL (ins.take j)) ++ bstr (putL [z]) = bstr (X0 ++ putL (ins.take (j + 1)))):=by
       show _ = _
       rw [bstr_app,HTI.out,List.append_assoc]
       simp [putL]
      generalize bstr (X0 ++ putL (ins.take j)) = E0 at *
      generalize bstr (putL [z]) = EZ at *
      go_wp2_with fail
      refine (HCZ.out _).mono ?_
      rintro e w5 ⟨rfl,hq⟩
      go_wp2_with fail
      go_roundw
      case rel =>
       (repeat apply Exists.intro)
       exact ⟨⟨j + 1,by go_num,by omega,by rw [HAZ.out],hKx.keep hq⟩,rfl⟩
      case measure => simp [intOf]; omega
     ·obtain rfl:j = ins.length:=by omega
      rw [List.take_of_length_le (Nat.le_refl _)]
      have HX:Hid (ExAt wr wr.heap.size (.agg #[.int .u8 x.op, .int .i64 x.n, .slice a2 x.args.length cap2]) x):=⟨_,rfl,(HI2.out.across hBr hKx.below).mono hKx.below.size⟩
      have HCX:=Lib.hid (putEx_all x.ht x _ _ wr (Nat.le_refl _) HXO.out (by omega) HX.out (Nat.le_refl _))
      have hse:=bstr_size (X0 ++ putL ins)
      rw [List.length_append] at hse
      have hsx:=bstr_size x.by
      have HAX:Hid (bstr (X0 ++ putL ins) ++ bstr x.by = bstr (P ++ nodesBy (nds.take (k + 1)))):=by
       show _ = _
       rw [bstr_app,HTK.out,HDB.out, ← HX0.out]
       simp only [List.append_assoc]
      generalize bstr (X0 ++ putL ins) = E0 at *
      generalize bstr x.by = EX at *
      have p0:=hKx.hd.cell 0
      have p1:=hKx.hd.cell 1
      have p2:=hKx.hd.cell 2
      have p3:=hKx.hd.cell 3
      have p4:=hKx.hd.cell 4
      have p5:=hKx.hd.cell 5
      have p6:=hKx.hd.cell 6
      go_wp2_with fail
      refine HCX.out.mono ?_
      rintro e w6 ⟨rfl,hq⟩
      go_wp2_with fail
      go_roundw
      case rel => exact ⟨k + 1,by go_num,by omega,by rw [HAX.out],(hKx.keep hq).below⟩
      case measure => simp [intOf]; omega
   ·obtain rfl:k = nds.length:=by omega
    rw [List.take_of_length_le (Nat.le_refl _)]
    go_wp2_with fail
    go_ret2
    rw [HR.out,HBE.out]
    exact ⟨rfl,hBr⟩
 ·have hm':(m2 != 0) = true:=by simpa using hm
  have HR:Hid (R = ([],2)):=by show _ = _; rw [HE.out,if_neg hm]
  clear HE HGS
  go_enter Tryz.func98,Tryz.ntmps98
  go_upto_region 1 with fail
  generalize World.alloc w _ = W at *
  have p0:=hK.hd.cell 0
  have p1:=hK.hd.cell 1
  go_wp2_with fail
  refine (HMY.out W hK.below).mono ?_
  rintro e w1 ⟨rfl,hq⟩
  go_wp2_with fail
  go_ret2
  rw [HR.out]
  exact ⟨rfl,(hK.keep hq).below⟩
mutual
theorem Ex.same_refl:∀ x:Ex,x.sameB x = true
 | .mk o n l => by simp only [Ex.sameB]; rw [Exs.same_refl l]; simp
theorem Exs.same_refl:∀ l:List Ex,Exs.sameB l l = true
 | [] => rfl
 | x :: l => by simp only [Exs.sameB]; rw [Ex.same_refl x,Exs.same_refl l]; rfl
end
theorem Nd.same_refl (x:Nd):x.sameB x = true:=by
 unfold Nd.sameB
 rw [Ex.same_refl,(intsB_iff _ _).2 rfl]
 simp
theorem Nds.same_refl:∀ l:List Nd,Nds.sameB l l = true
 | [] => rfl
 | x :: l => by simp only [Nds.sameB]; rw [Nd.same_refl x,Nds.same_refl l]; rfl
theorem Jb.same_refl (x:Jb):x.sameB x = true:=by
 unfold Jb.sameB
 rw [Nds.same_refl]
 simp
theorem fit_node (d:Nd) (k:Nat) (hok:d.ok) (h:nodeB d (k:Int) = true):NdFit d:=by
 have h1:nameB d.uid = true:=by
  unfold nodeB at h
  simp only [Bool.and_eq_true] at h
  exact h.1
 have h2:=(nodeB_in _ _ h).1
 have h3:d.uid.size ≤ 65536:=Nat.le_trans (name_size h1) (by decide)
 have h4:d.ins.length ≤ 12:=Nat.le_trans h2 (by decide)
 refine ⟨h3,h4, ?_,hok⟩
 unfold nodeB at h
 simp only [Bool.and_eq_true] at h
 have hx:=h.2.2.2.2.2.2.2.2.2
 cases ht:(rTy d.kind == 0)
 ·rw [ht,cond_false] at hx
  unfold Ex.isB at hx
  have hx:=(of_decide_eq_true hx).1
  unfold Ex.typ at hx
  by_cases hm:d.x.mayT = true
  ·have hm':mayB 16 d.x = true:=hm
   exact fit_of_may 16 d.x hm'
  ·rw [if_neg hm] at hx
   exact absurd hx (by decide)
 ·rw [ht,cond_true] at hx
  have:d.x.args = []:=by
   rw [Ex.sameB_eq] at hx
   simp only [Bool.and_eq_true] at hx
   have h3:=hx.2.2
   cases hl:d.x.args with
   | nil => rfl
   | cons y l => rw [hl] at h3; exact absurd h3 (by simp [Exs.sameB,Ex.args])
  exact ⟨by rw [this]; simp,by rw [this]; simp⟩
theorem good_fit {j:Jb} (hok:j.ok) (h:j.may.2 = 0):∀ d ∈ j.nodes,NdFit d:=by
 intro d hd
 obtain ⟨i,hi,rfl⟩:=List.mem_iff_getElem.1 hd
 exact fit_node _ _ (hok.2.2 _ hd) ((may_good j h).node i hi)
theorem takeJ_put {j:Jb} (hok:j.ok) (h:j.may.2 = 0):takeJ (bstr j.by) = (j,0):=by
 have e:=(jb_rds j hok (may_good j h).n2 (good_fit hok h)).1 []
 rw [List.append_nil] at e
 unfold takeJ
 dsimp only
 rw [e]
 dsimp only
 rw [if_pos h,if_pos (bstr_nil_size.2 rfl)]
 rfl
theorem by_len {j:Jb} (hok:j.ok) (h:j.may.2 = 0):j.by.length ≤ 1000000:=by
 obtain ⟨h1,h2,h3,h4⟩:=good_small hok h
 have h5:=nodesBy_len j.nodes h1 hok.2.2
 have h6:(putL [j.par,(j.nodes.length:Int)]).length ≤ 20:=by
  refine putL_len [j.par,(j.nodes.length:Int)] ?_
  intro z hz
  simp only [List.mem_cons,List.not_mem_nil,or_false] at hz
  rcases hz with rfl | rfl <;> omega
 unfold Jb.by
 rw [List.length_append]
 omega
theorem Jb.same_zero {j:Jb} (h:j.sameB ⟨0,[]⟩ = true):j = ⟨0,[]⟩:=by
 obtain ⟨p,l⟩:=j
 unfold Jb.sameB at h
 simp only [Bool.and_eq_true,beq_iff_eq] at h
 cases l with
 | nil => rw [h.1]
 | cons d l => exact absurd h.2 (by simp [Nds.sameB])
theorem nodes_by_sum:∀ (l:List Nd) (left:Nat),(∀ d ∈ l,d.ok) → (∀ d ∈ l,NdSmall d) → left ≤ 1001 → 1 ≤ countGo l left → (nodesBy l).length ≤ 166 * l.length + 30 * (left - countGo l left)
 | [],left,_,_,_,_ => by simp [nodesBy,countGo]
 | d :: l,left,hok,hsm,hl,h => by
  simp only [countGo] at h ⊢
  have h3:=countGo_le l (d.x.count left)
  have h4:=Ex.count_le d.x left
  have ih:=nodes_by_sum l _ (fun f hf => hok f (by simp [hf])) (fun f hf => hsm f (by simp [hf])) (by omega) h
  obtain ⟨k1,k2,k3,k4,k5,k6⟩:=hok d (by simp)
  have hx:=(Ex.by_count d.x left k4 hl (by omega)).1
  have h1:=(hsm d (by simp)).uid
  have h2:=(hsm d (by simp)).ins
  have h5:(putL [d.kind,d.n,(d.ins.length:Int)]).length ≤ 30:=by
   refine putL_len [d.kind,d.n,(d.ins.length:Int)] ?_
   intro z hz
   simp only [List.mem_cons,List.not_mem_nil,or_false] at hz
   rcases hz with rfl | rfl | rfl <;> omega
  have h6:=putL_len d.ins k3
  have h7:=putN_len (d.uid.size:Int) (by omega) (by omega)
  have h8:=Lib.size_eq d.uid
  have e:nodesBy (d :: l) = d.by ++ nodesBy l:=rfl
  rw [e,List.length_append,List.length_cons]
  unfold Nd.by txtL
  simp only [List.length_append]
  omega
theorem by_small {j:Jb} (hok:j.ok) (h:j.may.2 = 0):j.by.length ≤ 32012:=by
 obtain ⟨hs,hn,hp1,hp2⟩:=good_small hok h
 have hp:=(may_good j h).pa
 have h1:=nodes_by_sum j.nodes 1001 hok.2.2 hs (Nat.le_refl _) (by unfold Jb.parts at hp; omega)
 have h2:(putL [j.par,(j.nodes.length:Int)]).length ≤ 20:=by
  refine putL_len [j.par,(j.nodes.length:Int)] ?_
  intro z hz
  simp only [List.mem_cons,List.not_mem_nil,or_false] at hz
  rcases hz with rfl | rfl <;> omega
 unfold Jb.parts at hp
 unfold Jb.by
 rw [List.length_append]
 omega
structure Lg where
 file:Nat
 l:List Frm
 sure:Nat
namespace Lg
def «open» (d:Dk) (f:Nat):Dk × Option Lg × Int :=
 if d.off = true then (d,none,50) else
 if (frs (allF (fl d.now f))).length < (fl d.now f).size then
  if (d.cut f (frs (allF (fl d.now f))).length).2 ≠ 0 then ((d.cut f (frs (allF (fl d.now f))).length).1,none,(d.cut f (frs (allF (fl d.now f))).length).2) else
  if (d.cut f (frs (allF (fl d.now f))).length).1.sync.2 ≠ 0 then ((d.cut f (frs (allF (fl d.now f))).length).1.sync.1,none,(d.cut f (frs (allF (fl d.now f))).length).1.sync.2) else
  ((d.cut f (frs (allF (fl d.now f))).length).1.sync.1,some ⟨f,allF (fl d.now f),(allF (fl d.now f)).length⟩,0)
 else (d,some ⟨f,allF (fl d.now f),(allF (fl d.now f)).length⟩,0)
def put (d:Dk) (g:Lg) (k:Nat) (u:ByteArray):Dk × Lg × Int :=
 if k = 0 then (d,g,2) else if 65536 < u.size then (d,g,3) else
 if (d.append g.file (bstr (frL k u))).2 ≠ 0 then ((d.append g.file (bstr (frL k u))).1,g,(d.append g.file (bstr (frL k u))).2) else
 ((d.append g.file (bstr (frL k u))).1,⟨g.file,g.l ++ [(k,u)],g.sure⟩,0)
def sync (d:Dk) (g:Lg):Dk × Lg × Int :=
 if g.sure = g.l.length then (d,g,0) else
 if d.sync.2 ≠ 0 then (d.sync.1,g,d.sync.2) else (d.sync.1,⟨g.file,g.l,g.l.length⟩,0)
structure Ok (g:Lg):Prop where
 file:g.file < 16
 recs:∀ p ∈ g.l,p.ok
 sure:g.sure ≤ g.l.length
 size:(frs g.l).length ≤ 4194304
end Lg
structure St where
 kind:Nat
 n:Int
 cut:Int
 too:Int
 job:Jb
 part:Int
 at_:Int
 why:Int
def I64 (z:Int):Prop := -9223372036854775808 ≤ z ∧ z ≤ 9223372036854775807
namespace St
structure Ok (x:St):Prop where
 kind:x.kind < 256
 n:I64 x.n
 cut:I64 x.cut
 too:I64 x.too
 job:x.job.ok
 part:I64 x.part
 at_:I64 x.at_
 why:I64 x.why
def sameB (a b:St):Bool:=a.kind == b.kind && (a.n == b.n && (a.cut == b.cut && (a.too == b.too && (a.part == b.part && (a.at_ == b.at_ && (a.why == b.why && a.job.sameB b.job))))))
def noneB (x:St):Bool:=x.job.sameB ⟨0,[]⟩ && (x.n == 0 && (x.cut == 0 && x.too == 0))
def mayB (x:St):Bool :=
 if x.kind = 1 then decide (1 ≤ x.n) && (decide (0 ≤ x.cut) && (decide (x.cut ≤ x.too) && (x.job.may.2 == 0 && (x.part == 0 && (x.at_ == 0 && x.why == 0)))))
 else if x.kind = 3 then x.noneB && ((x.part == 0 || x.part == 1) && (decide (0 ≤ x.at_) && x.why == 0))
 else if x.kind = 6 then x.noneB && (x.part == 0 && (x.at_ == 0 && decide (1 ≤ x.why)))
 else if x.kind = 2 ∨ x.kind = 4 ∨ x.kind = 5 then x.noneB && (x.part == 0 && (x.at_ == 0 && x.why == 0))
 else false
def nums (x:St):List Int:=[x.n,x.cut,x.too,x.part,x.at_,x.why]
def by_ (x:St):List UInt8:=putL x.nums ++ if x.kind = 1 then txtL (bstr x.job.by) else []
def text (x:St):ByteArray:=bstr x.by_
end St
def takeN:Nat → ByteArray → Option (List Int × ByteArray)
 | 0,s => some ([],s)
 | n + 1,s => if (takeS s).2.2 ≠ 0 then none else match takeN n (s.extract (takeS s).2.1.toNat s.size) with
  | none => none
  | some (l,r) => some ((takeS s).1 :: l,r)
def stOf (k:Nat) (l:List Int) (j:Jb):St:=⟨k,l.getD 0 0,l.getD 1 0,l.getD 2 0,j,l.getD 3 0,l.getD 4 0,l.getD 5 0⟩
def readSt (k:Nat) (s:ByteArray):Option St :=
 match takeN 6 s with
 | none => none
 | some (l,r) =>
  let x:=stOf k l (if k = 1 then (takeJ (takeT r).1).1 else ⟨0,[]⟩)
  if x.mayB = true ∧ x.text = s then some x else none
def nextP (p k:Nat):Nat × Bool :=
 (if k = 1 then 1 else if k = 2 then 2 else if k = 3 then 3 else 0,
  if p = 0 then k == 1 || k == 6 else if p = 1 then k == 2 || k == 3 else if p = 2 then k == 4 || k == 5 else k == 5)
structure Rdw where
 lg:Lg
 l:List St
 phase:Nat
namespace Rdw
def takes:List Frm → List St → Nat → Option (List St × Nat)
 | [],l,p => some (l,p)
 | f :: fs,l,p => match readSt f.1 f.2 with
  | none => none
  | some x => if (nextP p x.kind).2 = true then takes fs (l ++ [x]) (nextP p x.kind).1 else none
def ofLog (g:Lg):Option Rdw × Int:=match takes g.l [] 0 with
 | none => (none,260)
 | some (l,p) => (some ⟨g,l,p⟩,0)
def «open» (d:Dk):Dk × Option Rdw × Int:=match (Lg.open d 6).2.1 with
 | none => ((Lg.open d 6).1,none,(Lg.open d 6).2.2)
 | some g => ((Lg.open d 6).1,(ofLog g).1,(ofLog g).2)
def put (d:Dk) (r:Rdw) (x:St):Dk × Rdw × Int :=
 if x.mayB = false then (d,r,2) else if (nextP r.phase x.kind).2 = false then (d,r,261) else
 if (Lg.put d r.lg x.kind x.text).2.2 ≠ 0 then ((Lg.put d r.lg x.kind x.text).1,⟨(Lg.put d r.lg x.kind x.text).2.1,r.l,r.phase⟩,(Lg.put d r.lg x.kind x.text).2.2) else
 let s:=Lg.sync (Lg.put d r.lg x.kind x.text).1 (Lg.put d r.lg x.kind x.text).2.1
 (s.1,⟨s.2.1,r.l ++ [x],(nextP r.phase x.kind).1⟩,s.2.2)
end Rdw
theorem takeN_put:∀ (l:List Int) (rest:List UInt8),(∀ z ∈ l,I64 z) → takeN l.length (bstr (putL l ++ rest)) = some (l,bstr rest)
 | [],rest,_ => rfl
 | z :: l,rest,h => by
  have hz:=h z (by simp)
  have e:putL (z :: l) ++ rest = putN z ++ (putL l ++ rest):=by unfold putL; simp
  rw [e,List.length_cons]
  unfold takeN
  rw [takeS_bstr,take_put z hz.1 hz.2]
  dsimp only
  rw [if_neg (by simp),Int.toNat_natCast,cut_bstr,List.drop_left,takeN_put l rest (fun y hy => h y (by simp [hy]))]
namespace St
theorem may_kind {x:St} (h:x.mayB = true):1 ≤ x.kind ∧ x.kind ≤ 6:=by
 unfold mayB at h
 split at h
 ·omega
 split at h
 ·omega
 split at h
 ·omega
 split at h
 ·omega
 ·exact absurd h (by decide)
theorem may_job {x:St} (h:x.mayB = true) (h1:x.kind = 1):x.job.may.2 = 0:=by
 unfold mayB at h
 rw [if_pos h1] at h
 simp only [Bool.and_eq_true,beq_iff_eq] at h
 exact h.2.2.2.1
theorem none_job {x:St} (h:x.noneB = true):x.job = ⟨0,[]⟩ ∧ x.n = 0 ∧ x.cut = 0 ∧ x.too = 0:=by
 unfold noneB at h
 simp only [Bool.and_eq_true,beq_iff_eq] at h
 exact ⟨Jb.same_zero h.1,h.2.1,h.2.2.1,h.2.2.2⟩
theorem may_none {x:St} (h:x.mayB = true) (h1:x.kind ≠ 1):x.noneB = true:=by
 unfold mayB at h
 rw [if_neg h1] at h
 split at h
 ·simp only [Bool.and_eq_true] at h; exact h.1
 split at h
 ·simp only [Bool.and_eq_true] at h; exact h.1
 split at h
 ·simp only [Bool.and_eq_true] at h; exact h.1
 ·exact absurd h (by decide)
theorem nums_ok {x:St} (h:x.Ok):∀ z ∈ x.nums,I64 z:=by
 intro z hz
 unfold nums at hz
 simp only [List.mem_cons,List.not_mem_nil,or_false] at hz
 rcases hz with rfl | rfl | rfl | rfl | rfl | rfl
 ·exact h.n
 ·exact h.cut
 ·exact h.too
 ·exact h.part
 ·exact h.at_
 ·exact h.why
theorem read_put {x:St} (hok:x.Ok) (h:x.mayB = true) (hs:x.kind = 1 → x.job.by.length ≤ 65536):readSt x.kind x.text = some x:=by
 have e:takeN 6 x.text = some (x.nums,bstr (if x.kind = 1 then txtL (bstr x.job.by) else [])):=takeN_put x.nums _ (nums_ok hok)
 have hj:(if x.kind = 1 then (takeJ (takeT (bstr (if x.kind = 1 then txtL (bstr x.job.by) else []))).1).1 else (⟨0,[]⟩:Jb)) = x.job:=by
  by_cases h1:x.kind = 1
  ·have:=takeT_put (bstr x.job.by) (by rw [bstr_size]; exact hs h1) []
   rw [List.append_nil] at this
   rw [if_pos h1,if_pos h1,this,takeJ_put hok.job (may_job h h1)]
  ·rw [if_neg h1,(none_job (may_none h h1)).1]
 unfold readSt
 rw [e]
 dsimp only
 rw [hj]
 have hx:stOf x.kind x.nums x.job = x:=rfl
 rw [hx,if_pos ⟨h,rfl⟩]
theorem sameB_refl (x:St):x.sameB x = true:=by unfold sameB; simp [Jb.same_refl]
theorem text_job {x:St} (h1:x.kind = 1) (h:x.text.size ≤ 65536):x.job.by.length ≤ 65536:=by
 have e:x.text.size = (putL x.nums).length + (txtL (bstr x.job.by)).length:=by
  unfold text by_
  rw [bstr_size,if_pos h1,List.length_append]
 have:(txtL (bstr x.job.by)).length = (putN ((bstr x.job.by).size:Int)).length + x.job.by.length:=by
  unfold txtL
  rw [List.length_append,bstr_list]
 omega
end St
def St.fr (x:St):Frm:=(x.kind,x.text)
theorem St.fr_ok {x:St} (h:x.mayB = true) (hs:x.text.size ≤ 65536):x.fr.ok:=by
 have:=St.may_kind h
 exact ⟨by show 0 < x.kind; omega,by show x.kind < 256; omega,hs⟩
namespace Rdw
structure Kp (d:Dk) (r:Rdw):Prop where
 inv:d.Inv
 off:d.off = false
 file:r.lg.file = 6
 lg:r.lg.l = r.l.map St.fr
 sure:r.lg.sure = r.lg.l.length
 now:fl d.now 6 = bstr (frs r.lg.l)
 loose:d.loose = []
 ok:∀ x ∈ r.l,x.Ok ∧ x.mayB = true ∧ x.text.size ≤ 65536
 takes:takes r.lg.l [] 0 = some (r.l,r.phase)
structure Gone (d:Dk) (r:Rdw) (x:St):Prop where
 inv:d.Inv
 lg:r.lg.l = r.l.map St.fr
 ok:∀ x ∈ r.l,x.Ok ∧ x.mayB = true ∧ x.text.size ≤ 65536
 xok:x.Ok ∧ x.mayB = true ∧ x.text.size ≤ 65536 ∧ (nextP r.phase x.kind).2 = true
 sure:fl d.sure 6 = bstr (frs r.lg.l)
 loose:d.loose = [] ∨ d.loose = [.app 6 (bstr (frL x.kind x.text))]
 takes:Rdw.takes r.lg.l [] 0 = some (r.l,r.phase)
theorem takes_cons (f:Frm) (fs:List Frm) (l:List St) (p:Nat):takes (f :: fs) l p = match readSt f.1 f.2 with
  | none => none
  | some x => if (nextP p x.kind).2 = true then takes fs (l ++ [x]) (nextP p x.kind).1 else none:=rfl
theorem frs_one (x:St):frs [x.fr] = frL x.kind x.text:=by rw [frs_cons,frs_nil,List.append_nil]; rfl
theorem takes_app:∀ (a b:List Frm) (l:List St) (p:Nat),takes (a ++ b) l p = (takes a l p).bind fun q => takes b q.1 q.2
 | [],b,l,p => rfl
 | f :: a,b,l,p => by
  show takes (f :: (a ++ b)) l p = _
  rw [takes_cons,takes_cons]
  cases readSt f.1 f.2 with
  | none => rfl
  | some x =>
   dsimp only
   split
   ·exact takes_app a b _ _
   ·rfl
theorem lput_eq (d:Dk) (g:Lg) (k:Nat) (u:ByteArray) (hk:k ≠ 0) (hs : ¬ 65536 < u.size):Lg.put d g k u = if (d.append g.file (bstr (frL k u))).2 ≠ 0 then ((d.append g.file (bstr (frL k u))).1,g,(d.append g.file (bstr (frL k u))).2) else ((d.append g.file (bstr (frL k u))).1,⟨g.file,g.l ++ [(k,u)],g.sure⟩,0):=by
 unfold Lg.put
 rw [if_neg hk,if_neg hs]
theorem lput_big (d:Dk) (g:Lg) (k:Nat) (u:ByteArray) (hk:k ≠ 0) (hs:65536 < u.size):Lg.put d g k u = (d,g,3):=by
 unfold Lg.put
 rw [if_neg hk,if_pos hs]
theorem put_eq (d:Dk) (r:Rdw) (x:St) (hm:x.mayB = true) (hn:(nextP r.phase x.kind).2 = true) (p:Dk × Lg × Int) (hp:Lg.put d r.lg x.kind x.text = p) :
  Rdw.put d r x = if p.2.2 ≠ 0 then (p.1,⟨p.2.1,r.l,r.phase⟩,p.2.2) else ((Lg.sync p.1 p.2.1).1,⟨(Lg.sync p.1 p.2.1).2.1,r.l ++ [x],(nextP r.phase x.kind).1⟩,(Lg.sync p.1 p.2.1).2.2):=by
 subst hp
 unfold Rdw.put
 rw [hm,hn,if_neg (by simp),if_neg (by simp)]
theorem Kp.recs {d:Dk} {r:Rdw} (h:Kp d r):∀ p ∈ r.lg.l,p.ok:=by
 intro p hp
 rw [h.lg] at hp
 obtain ⟨x,hx,rfl⟩:=List.mem_map.1 hp
 exact St.fr_ok (h.ok x hx).2.1 (h.ok x hx).2.2
theorem takes_snoc {l:List Frm} {m:List St} {p:Nat} (h:takes l [] 0 = some (m,p)) {x:St} (hok:x.Ok) (hm:x.mayB = true) (hs:x.text.size ≤ 65536) (hn:(nextP p x.kind).2 = true) :
  takes (l ++ [x.fr]) [] 0 = some (m ++ [x],(nextP p x.kind).1):=by
 rw [takes_app,h]
 show takes [x.fr] m p = _
 unfold takes
 rw [show readSt x.fr.1 x.fr.2 = some x from St.read_put hok hm (fun h1 => St.text_job h1 hs)]
 dsimp only
 rw [if_pos hn]
 rfl
theorem Kp.put {d:Dk} {r:Rdw} (h:Kp d r) (x:St) (hx:x.Ok) :
  ((Rdw.put d r x).2.2 = 0 ∧ Kp (Rdw.put d r x).1 (Rdw.put d r x).2.1 ∧ (Rdw.put d r x).2.1.l = r.l ++ [x] ∧ (Rdw.put d r x).2.1.phase = (nextP r.phase x.kind).1 ∧ x.mayB = true ∧ (nextP r.phase x.kind).2 = true) ∨
  ((Rdw.put d r x).2.2 = 50 ∧ Gone (Rdw.put d r x).1 r x) ∨
  ((Rdw.put d r x).2.2 ≠ 0 ∧ (Rdw.put d r x).2.2 ≠ 50 ∧ (Rdw.put d r x).1 = d ∧ (Rdw.put d r x).2.1 = r ∧ (x.mayB = false ∨ (nextP r.phase x.kind).2 = false ∨ 65536 < x.text.size ∨ d.free < ((frL x.kind x.text).length:Int))):=by
 cases hm:x.mayB
 ·have e:Rdw.put d r x = (d,r,2):=by unfold Rdw.put; rw [if_pos hm]
  rw [e]
  exact .inr (.inr ⟨by simp,by simp,rfl,rfl, .inl rfl⟩)
 cases hn:(nextP r.phase x.kind).2
 ·have e:Rdw.put d r x = (d,r,261):=by unfold Rdw.put; rw [hm,if_neg (by decide),if_pos hn]
  rw [e]
  exact .inr (.inr ⟨by simp,by simp,rfl,rfl, .inr (.inl rfl)⟩)
 have hk:=St.may_kind hm
 by_cases hs:65536 < x.text.size
 ·have e:Rdw.put d r x = (d,r,3):=by
   rw [put_eq d r x hm hn _ (lput_big d r.lg x.kind x.text (by omega) hs),if_pos (by simp)]
  rw [e]
  exact .inr (.inr ⟨by simp,by simp,rfl,rfl, .inr (.inr (.inl hs))⟩)
 by_cases hf:d.free < ((frL x.kind x.text).length:Int)
 ·have e1:d.append r.lg.file (bstr (frL x.kind x.text)) = (d,7):=by
   unfold Dk.append
   rw [h.file,if_neg (by rw [h.off]; decide),if_neg (by decide),bstr_size,if_pos hf]
  have e:Rdw.put d r x = (d,r,7):=by
   have e2:=lput_eq d r.lg x.kind x.text (by omega) hs
   rw [e1,if_pos (by simp)] at e2
   rw [put_eq d r x hm hn _ e2,if_pos (by simp)]
  rw [e]
  exact .inr (.inr ⟨by simp,by simp,rfl,rfl, .inr (.inr (.inr hf))⟩)
 have h16:=h.inv.now16
 have hfit:=h.inv.append 6 (bstr (frL x.kind x.text))
 have e1:d.append r.lg.file (bstr (frL x.kind x.text)) = d.change (.app 6 (bstr (frL x.kind x.text))):=by
  unfold Dk.append
  rw [h.file,if_neg (by rw [h.off]; decide),if_neg (by decide),bstr_size,if_neg hf]
  rfl
 rw [h.file] at e1
 rw [show ((6:Nat):Int) = 6 from rfl] at e1
 rw [e1] at hfit
 have hrok:∀ y ∈ r.l ++ [x],y.Ok ∧ y.mayB = true ∧ y.text.size ≤ 65536:=by
  intro y hy
  rcases List.mem_append.1 hy with hy | hy
  ·exact h.ok y hy
  ·obtain rfl:=List.mem_singleton.1 hy
   exact ⟨hx,hm,by omega⟩
 have htk:=takes_snoc h.takes hx hm (by omega) hn
 have hput:Rdw.put d r x = if (d.change (.app 6 (bstr (frL x.kind x.text)))).2 ≠ 0 then ((d.change (.app 6 (bstr (frL x.kind x.text)))).1,r,(d.change (.app 6 (bstr (frL x.kind x.text)))).2) else
   let s:=Lg.sync (d.change (.app 6 (bstr (frL x.kind x.text)))).1 ⟨6,r.lg.l ++ [x.fr],r.lg.sure⟩
   (s.1,⟨s.2.1,r.l ++ [x],(nextP r.phase x.kind).1⟩,s.2.2):=by
  have e2:=lput_eq d r.lg x.kind x.text (by omega) hs
  rw [h.file,show ((6:Nat):Int) = 6 from rfl,e1] at e2
  by_cases he:(d.change (.app 6 (bstr (frL x.kind x.text)))).2 = 0
  ·rw [if_neg (by simpa using he)] at e2 ⊢
   rw [put_eq d r x hm hn _ e2,if_neg (by simp)]; rfl
  ·rw [if_pos he] at e2 ⊢
   rw [put_eq d r x hm hn _ e2,if_pos he]
 rw [hput]
 clear hput
 have hsure:d.now = d.sure:=by have:=h.inv.over; rw [h.loose] at this; exact this
 have hS:=h.sure
 have hne : ¬ r.lg.sure = (r.lg.l ++ [x.fr]).length:=by rw [List.length_append,h.sure]; simp
 obtain ⟨o0,o1,o2,o3⟩:=Dk.op_same d
 by_cases hl:d.left = 0
 ·have hop:d.op = ({ d with off:=true },50):=by unfold Dk.op; rw [if_pos hl]
  have hc:d.change (.app 6 (bstr (frL x.kind x.text))) = ({ d with off:=true },50):=by unfold Dk.change; rw [hop]; rfl
  rw [hc] at hfit ⊢
  rw [if_pos (by simp)]
  refine .inr (.inl ⟨rfl,hfit,h.lg,h.ok,⟨hx,hm,by omega,hn⟩, ?_, .inl h.loose,h.takes⟩)
  show fl d.sure 6 = _
  rw [← hsure]; exact h.now
 have hop2:d.op.2 = 0:=by unfold Dk.op; rw [if_neg hl]; split <;> rfl
 have hoff:d.op.1.off = false:=by unfold Dk.op; rw [if_neg hl]; split <;> exact h.off
 have hc:d.change (.app 6 (bstr (frL x.kind x.text))) = ({ d.op.1 with now:=(Chg.app 6 (bstr (frL x.kind x.text))).does d.op.1.now,loose:=d.op.1.loose ++ [.app 6 (bstr (frL x.kind x.text))] },0):=by
  unfold Dk.change; rw [if_pos hop2]
 rw [hc] at hfit ⊢
 rw [if_neg (by simp)]
 generalize hd1:({ d.op.1 with now:=(Chg.app 6 (bstr (frL x.kind x.text))).does d.op.1.now,loose:=d.op.1.loose ++ [.app 6 (bstr (frL x.kind x.text))] }:Dk) = d1 at *
 have f0:d1.off = false:=by rw [← hd1]; exact hoff
 have f1:d1.loose = [.app 6 (bstr (frL x.kind x.text))]:=by rw [← hd1]; show d.op.1.loose ++ _ = _; rw [o3,h.loose]; rfl
 have f2:fl d1.sure 6 = bstr (frs r.lg.l):=by rw [← hd1]; show fl d.op.1.sure 6 = _; rw [o2, ← hsure]; exact h.now
 have f3:fl d1.now 6 = bstr (frs (r.lg.l ++ [x.fr])):=by
  rw [← hd1]
  show fl (d.op.1.now.set 6 (fl d.op.1.now 6 ++ bstr (frL x.kind x.text))) 6 = _
  rw [o1,fl_set d.now 6 6 _ (by rw [h16]; decide),if_pos rfl,h.now,bstr_app,frs_app,frs_one]
 clear hd1
 dsimp only
 have hsy:Lg.sync d1 ⟨6,r.lg.l ++ [x.fr],r.lg.sure⟩ = if d1.sync.2 ≠ 0 then (d1.sync.1,⟨6,r.lg.l ++ [x.fr],r.lg.sure⟩,d1.sync.2) else (d1.sync.1,⟨6,r.lg.l ++ [x.fr],(r.lg.l ++ [x.fr]).length⟩,0):=by
  unfold Lg.sync
  rw [if_neg hne]
 rw [hsy]
 have hsi:=hfit.sync
 by_cases hl1:d1.left = 0
 ·have hop1:d1.op = ({ d1 with off:=true },50):=by unfold Dk.op; rw [if_pos hl1]
  have hs1:d1.sync = ({ d1 with off:=true },50):=by unfold Dk.sync; rw [f0,if_neg (by decide),hop1]; rfl
  rw [hs1] at hsi ⊢
  rw [if_pos (by simp)]
  exact .inr (.inl ⟨rfl,hsi,h.lg,h.ok,⟨hx,hm,by omega,hn⟩,f2, .inr f1,h.takes⟩)
 ·have hop1:d1.op.2 = 0:=by unfold Dk.op; rw [if_neg hl1]; split <;> rfl
  have hoff1:d1.op.1.off = false:=by unfold Dk.op; rw [if_neg hl1]; split <;> exact f0
  obtain ⟨p0,p1,p2,p3⟩:=Dk.op_same d1
  have hs1:d1.sync = ({ d1.op.1 with sure:=d1.op.1.now,loose:=[] },0):=by unfold Dk.sync; rw [f0,if_neg (by decide),if_pos hop1]
  rw [hs1] at hsi ⊢
  rw [if_neg (by simp)]
  refine .inl ⟨rfl,⟨hsi,hoff1,rfl, ?_,rfl, ?_,rfl,hrok,htk⟩,rfl,rfl,rfl,rfl⟩
  ·show r.lg.l ++ [x.fr] = (r.l ++ [x]).map St.fr
   rw [List.map_append,h.lg]; rfl
  ·show fl d1.op.1.now 6 = _
   rw [p1]; exact f3
theorem open_cut {d:Dk} (hd:d.Inv) (hoff:d.off = false) (hleft:d.left = -1) {l:List Frm} (hl:∀ p ∈ l,p.ok) {rest:List UInt8} (hrest:(takeF (bstr rest)).2.2.2 ≠ 0) (hnow:fl d.now 6 = bstr (frs l ++ rest)) {m:List St} {p:Nat} (hm:takes l [] 0 = some (m,p)) :
  ∃ r,(Rdw.open d).2 = (some r,0) ∧ r.l = m ∧ r.phase = p:=by
 have ha:allF (fl d.now 6) = l:=by rw [hnow]; exact allF_of l rest hl hrest
 have hof:∀ g:Lg,g.l = l → ofLog g = (some ⟨g,m,p⟩,0):=fun g hg => by unfold ofLog; rw [hg,hm]
 have hlo:∃ g,(Lg.open d 6).2 = (some g,0) ∧ g.l = l:=by
  unfold Lg.open
  rw [ha,if_neg (by rw [hoff]; decide)]
  by_cases hlt:(frs l).length < (fl d.now 6).size
  ·rw [if_pos hlt]
   have hc:d.cut (6:Nat) (frs l).length = ({ d with now:=(Chg.cut 6 (frs l).length).does d.now,loose:=d.loose ++ [Chg.cut 6 (frs l).length] },0):=by
    have hop:d.op = (d,0):=by unfold Dk.op; rw [hleft]; rfl
    unfold Dk.cut Dk.change
    rw [if_neg (by rw [hoff]; decide),if_neg (by decide),if_neg (by
     intro h
     rcases h with h | h
     ·omega
     ·have:((6:Nat):Int).toNat = 6:=rfl
      rw [this] at h; omega),hop]
    rfl
   rw [hc,if_neg (by simp)]
   have hs:({ d with now:=(Chg.cut 6 (frs l).length).does d.now,loose:=d.loose ++ [Chg.cut 6 (frs l).length] }:Dk).sync.2 = 0:=by
    unfold Dk.sync
    rw [if_neg (by show ¬ d.off = true; rw [hoff]; decide)]
    have hop:({ d with now:=(Chg.cut 6 (frs l).length).does d.now,loose:=d.loose ++ [Chg.cut 6 (frs l).length] }:Dk).op.2 = 0:=by unfold Dk.op; rw [if_neg (by show ¬ d.left = 0; rw [hleft]; decide)]; split <;> rfl
    rw [if_pos hop]
   rw [if_neg (by simpa using hs)]
   exact ⟨_,rfl,rfl⟩
  ·rw [if_neg hlt]
   exact ⟨_,rfl,rfl⟩
 obtain ⟨g,hg,hgl⟩:=hlo
 unfold Rdw.open
 rw [show (Lg.open d 6).2.1 = some g by rw [hg]]
 dsimp only
 rw [hof g hgl]
 exact ⟨_,rfl,rfl,rfl⟩
theorem Kp.crash {d:Dk} {r:Rdw} (h:Kp d r) (c b:Int):∃ r2,(Rdw.open (d.crash c b)).2 = (some r2,0) ∧ r2.l = r.l ∧ r2.phase = r.phase:=by
 have hsure:d.now = d.sure:=by have:=h.inv.over; rw [h.loose] at this; exact this
 have hk:d.kept c b = d.now:=by unfold Dk.kept; rw [h.loose,hsure]; simp
 refine open_cut (h.inv.crash c b) rfl rfl h.recs (rest:=[]) (by rw [takeF_nil]; decide) ?_ h.takes
 show fl (d.kept c b) 6 = _
 rw [hk,h.now,List.append_nil]
theorem Gone.crash {d:Dk} {r:Rdw} {x:St} (h:Gone d r x) (c b:Int):∃ r2,(Rdw.open (d.crash c b)).2 = (some r2,0) ∧ (r2.l = r.l ∧ r2.phase = r.phase ∨ r2.l = r.l ++ [x]):=by
 have hrec:∀ p ∈ r.lg.l,p.ok:=by
  intro p hp
  rw [h.lg] at hp
  obtain ⟨y,hy,rfl⟩:=List.mem_map.1 hp
  exact St.fr_ok (h.ok y hy).2.1 (h.ok y hy).2.2
 obtain ⟨hx,hm,hs,hn⟩:=h.xok
 have hfk:=St.fr_ok hm hs
 have h16:=h.inv.sure16
 rcases h.loose with hl | hl
 ·have hk:d.kept c b = d.sure:=by unfold Dk.kept; rw [hl]; simp
  obtain ⟨r2,e,e1,e2⟩:=open_cut (h.inv.crash c b) rfl rfl hrec (rest:=[]) (by rw [takeF_nil]; decide) (by
   show fl (d.kept c b) 6 = _
   rw [hk,h.sure,List.append_nil]) h.takes
  exact ⟨r2,e, .inl ⟨e1,e2⟩⟩
 ·by_cases hc:clip c 1 = 0
  ·have hk:d.kept c b = (Chg.app 6 (bstr (frL x.kind x.text))).part b d.sure:=by
    unfold Dk.kept
    rw [hl]
    rw [show ([Chg.app 6 (bstr (frL x.kind x.text))]:List Chg).length = 1 from rfl,hc]
    rfl
   have hk6:fl (d.kept c b) 6 = bstr (frs r.lg.l ++ (frL x.kind x.text).take (clip b (bstr (frL x.kind x.text)).size)):=by
    rw [hk]
    show fl (d.sure.set 6 (fl d.sure 6 ++ (bstr (frL x.kind x.text)).extract 0 (clip b (bstr (frL x.kind x.text)).size))) 6 = _
    rw [fl_set d.sure 6 6 _ (by rw [h16]; decide),if_pos rfl,h.sure, ← bstr_app]
    congr 1
    rw [← bstr_of ((bstr (frL x.kind x.text)).extract 0 _)]
    have:=extract_list (bstr (frL x.kind x.text)) 0 (clip b (bstr (frL x.kind x.text)).size)
    rw [Nat.zero_add,bstr_list,List.drop_zero] at this
    rw [this]
   have hcl:=clip_le b (bstr (frL x.kind x.text)).size
   rw [bstr_size] at hk6 hcl
   by_cases hw:clip b (frL x.kind x.text).length < (frL x.kind x.text).length
   ·obtain ⟨r2,e,e1,e2⟩:=open_cut (h.inv.crash c b) rfl rfl hrec (takeF_short x.kind x.text hfk.1 hfk.2.1 hs _ hw) hk6 h.takes
    exact ⟨r2,e, .inl ⟨e1,e2⟩⟩
   ·rw [List.take_of_length_le (by omega)] at hk6
    obtain ⟨r2,e,e1,e2⟩:=open_cut (h.inv.crash c b) rfl rfl (l:=r.lg.l ++ [x.fr]) (fun p hp => by
     rcases List.mem_append.1 hp with hp | hp
     ·exact hrec p hp
     ·obtain rfl:=List.mem_singleton.1 hp; exact hfk) (rest:=[]) (by rw [takeF_nil]; decide) (by
     show fl (d.kept c b) 6 = _
     rw [hk6,frs_app,List.append_nil,frs_one]) (takes_snoc h.takes hx hm hs hn)
    exact ⟨r2,e, .inr e1⟩
  ·have hc1:clip c 1 = 1:=by have:=clip_le c 1; omega
   have hk:d.kept c b = (Chg.app 6 (bstr (frL x.kind x.text))).does d.sure:=by
    unfold Dk.kept
    rw [hl]
    rw [show ([Chg.app 6 (bstr (frL x.kind x.text))]:List Chg).length = 1 from rfl,hc1]
    rfl
   obtain ⟨r2,e,e1,e2⟩:=open_cut (h.inv.crash c b) rfl rfl (l:=r.lg.l ++ [x.fr]) (fun p hp => by
     rcases List.mem_append.1 hp with hp | hp
     ·exact hrec p hp
     ·obtain rfl:=List.mem_singleton.1 hp; exact hfk) (rest:=[]) (by rw [takeF_nil]; decide) (by
     show fl (d.kept c b) 6 = _
     rw [hk]
     show fl (d.sure.set 6 (fl d.sure 6 ++ bstr (frL x.kind x.text))) 6 = _
     rw [fl_set d.sure 6 6 _ (by rw [h16]; decide),if_pos rfl,h.sure,frs_app,List.append_nil,bstr_app,frs_one]) (takes_snoc h.takes hx hm hs hn)
   exact ⟨r2,e, .inr e1⟩
end Rdw
theorem St.text_len {x:St} (hok:x.Ok) (h:x.mayB = true):x.text.size ≤ 32100:=by
 have h1:(putL x.nums).length ≤ 60:=putL_len x.nums (fun z hz => St.nums_ok hok z hz)
 unfold St.text St.by_
 rw [bstr_size,List.length_append]
 by_cases hk:x.kind = 1
 ·have h2:=by_small hok.job (St.may_job h hk)
  have h3:=putN_len ((bstr x.job.by).size:Int) (by omega) (by rw [bstr_size]; omega)
  rw [if_pos hk]
  unfold txtL
  rw [List.length_append,bstr_list]
  omega
 ·rw [if_neg hk]
  simp only [List.length_nil]
  omega
theorem St.fr_len {x:St} (hok:x.Ok) (h:x.mayB = true):(frL x.kind x.text).length ≤ 32200:=by
 have h1:=St.text_len hok h
 have h2:=(txtL_len x.text (by omega)).1
 rw [frL_len]
 omega
theorem frs_len:∀ (l:List St),(∀ x ∈ l,x.Ok ∧ x.mayB = true) → (frs (l.map St.fr)).length ≤ 32200 * l.length
 | [],_ => by simp [frs_nil]
 | x :: l,h => by
  have h1:=frs_len l (fun y hy => h y (by simp [hy]))
  have h2:=St.fr_len (h x (by simp)).1 (h x (by simp)).2
  rw [List.map_cons,frs_cons,List.length_append,List.length_cons]
  have e:(frL x.fr.1 x.fr.2).length = (frL x.kind x.text).length:=rfl
  omega
def Dk.only6 (d:Dk):Prop:=Dk.sum d.now = (fl d.now 6).size
namespace Rdw
theorem put_plain {d:Dk} {r:Rdw} (h:Kp d r) (hleft:d.left = -1) {x:St} (hm:x.mayB = true) (hn:(nextP r.phase x.kind).2 = true) (hs : ¬ 65536 < x.text.size) (hf : ¬ d.free < ((frL x.kind x.text).length:Int)) :
  (Rdw.put d r x).2.2 = 0 ∧ (Rdw.put d r x).1.left = -1 ∧ (Rdw.put d r x).1.room = d.room ∧ (Rdw.put d r x).1.now = d.now.set 6 (fl d.now 6 ++ bstr (frL x.kind x.text)):=by
 have hk:=St.may_kind hm
 have hop:d.op = (d,0):=by unfold Dk.op; rw [hleft]; rfl
 have e1:d.append r.lg.file (bstr (frL x.kind x.text)) = ({ d with now:=(Chg.app 6 (bstr (frL x.kind x.text))).does d.now,loose:=d.loose ++ [.app 6 (bstr (frL x.kind x.text))] },0):=by
  unfold Dk.append Dk.change
  rw [h.file,if_neg (by rw [h.off]; decide),if_neg (by decide),bstr_size,if_neg hf,hop]
  rfl
 have e2:=lput_eq d r.lg x.kind x.text (by omega) hs
 rw [e1,if_neg (by simp)] at e2
 rw [put_eq d r x hm hn _ e2,if_neg (by simp)]
 have hne : ¬ r.lg.sure = (r.lg.l ++ [(x.kind,x.text)]).length:=by rw [List.length_append,h.sure]; simp
 dsimp only
 unfold Lg.sync
 dsimp only
 rw [if_neg hne]
 have hs1:({ d with now:=(Chg.app 6 (bstr (frL x.kind x.text))).does d.now,loose:=d.loose ++ [.app 6 (bstr (frL x.kind x.text))] }:Dk).sync = ({ d with now:=(Chg.app 6 (bstr (frL x.kind x.text))).does d.now,sure:=(Chg.app 6 (bstr (frL x.kind x.text))).does d.now,loose:=[] },0):=by
  unfold Dk.sync Dk.op
  dsimp only
  rw [h.off,if_neg (by simp),hleft]
  rfl
 rw [hs1,if_neg (by simp)]
 exact ⟨rfl,hleft,rfl,rfl⟩
structure Own (d:Dk) (r:Rdw) (n:Nat):Prop where
 kp:Kp d r
 only:d.only6
 left:d.left = -1
 len:r.l.length ≤ n
theorem Own.put {d:Dk} {r:Rdw} {n:Nat} (h:Own d r n) (hroom:d.room = 4194304) (hn:n < 100) (x:St) (hx:x.Ok) :
  ((Rdw.put d r x).2.2 = 0 ∧ Own (Rdw.put d r x).1 (Rdw.put d r x).2.1 (n + 1) ∧ (Rdw.put d r x).1.room = 4194304 ∧ (Rdw.put d r x).2.1.l = r.l ++ [x] ∧ (Rdw.put d r x).2.1.phase = (nextP r.phase x.kind).1 ∧ x.mayB = true ∧ (nextP r.phase x.kind).2 = true) ∨
  ((Rdw.put d r x).2.2 ≠ 0 ∧ (Rdw.put d r x).1 = d ∧ (Rdw.put d r x).2.1 = r ∧ (x.mayB = false ∨ (nextP r.phase x.kind).2 = false)):=by
 have hp:=h.kp.put x hx
 cases hm:x.mayB
 ·rcases hp with ⟨_,_,_,_,e,_⟩ | ⟨_,g⟩ | ⟨e1,e2,e3,e4,_⟩
  ·rw [hm] at e; exact absurd e (by decide)
  ·rw [g.xok.2.1] at hm; exact absurd hm (by decide)
  ·exact .inr ⟨e1,e3,e4, .inl rfl⟩
 cases hn2:(nextP r.phase x.kind).2
 ·rcases hp with ⟨_,_,_,_,_,e⟩ | ⟨_,g⟩ | ⟨e1,e2,e3,e4,_⟩
  ·rw [hn2] at e; exact absurd e (by decide)
  ·rw [g.xok.2.2.2] at hn2; exact absurd hn2 (by decide)
  ·exact .inr ⟨e1,e3,e4, .inr rfl⟩
 have ht:=St.text_len hx hm
 have hfl:=St.fr_len hx hm
 have hall:=frs_len r.l (fun y hy => ⟨(h.kp.ok y hy).1,(h.kp.ok y hy).2.1⟩)
 have hnow:=h.kp.now
 rw [h.kp.lg] at hnow
 have hsum:Dk.sum d.now = (frs (r.l.map St.fr)).length:=by rw [h.only,hnow,bstr_size]
 have hlen:=h.len
 have hfree : ¬ d.free < ((frL x.kind x.text).length:Int):=by unfold Dk.free; rw [hsum,hroom]; omega
 obtain ⟨g1,g2,g3,g4⟩:=put_plain h.kp h.left hm hn2 (by omega) hfree
 rcases hp with ⟨e1,e2,e3,e4,_,_⟩ | ⟨e1,_⟩ | ⟨e1,_⟩
 ·refine .inl ⟨e1,⟨e2, ?_,g2, ?_⟩,g3.trans hroom,e3,e4,rfl,rfl⟩
  ·unfold Dk.only6
   have hs:=sum_set d.now 6 (fl d.now 6 ++ bstr (frL x.kind x.text)) (by rw [h.kp.inv.now16]; decide)
   have ho:=h.only
   unfold Dk.only6 at ho
   rw [g4,fl_set d.now 6 6 _ (by rw [h.kp.inv.now16]; decide),if_pos rfl]
   omega
  ·rw [e3,List.length_append]; simp only [List.length_cons,List.length_nil]; omega
 ·rw [g1] at e1; exact absurd e1 (by decide)
 ·exact absurd g1 e1
theorem open_new (room:Int):Rdw.open (Dk.new room) = (Dk.new room,some ⟨⟨6,[],0⟩,[],0⟩,0):=by rfl
theorem Kp.new (room:Int) (h1:1 ≤ room) (h2:room ≤ 4194304):Kp (Dk.new room) ⟨⟨6,[],0⟩,[],0⟩:=⟨Dk.Inv.new room h1 h2,rfl,rfl,rfl,rfl,rfl,rfl,by simp,rfl⟩
theorem Own.new (room:Int) (h1:1 ≤ room) (h2:room ≤ 4194304):Own (Dk.new room) ⟨⟨6,[],0⟩,[],0⟩ 0:=⟨Kp.new room h1 h2,rfl,rfl,Nat.le_refl _⟩
def Began (l:List St) (p:Nat):Prop:=p ≠ 0 → ∃ a s b,l = a ++ s :: b ∧ s.kind = 1 ∧ ∀ y ∈ b,y.kind ≠ 1
theorem Began.snoc {l:List St} {p:Nat} (h:Began l p) (x:St) (hn:(nextP p x.kind).2 = true):Began (l ++ [x]) (nextP p x.kind).1:=by
 intro hp
 by_cases h1:x.kind = 1
 ·exact ⟨l,x,[],rfl,h1,by simp⟩
 ·have hp0:p ≠ 0:=by
   rintro rfl
   unfold nextP at hn hp
   simp only [if_pos,beq_iff_eq,Bool.or_eq_true] at hn hp
   rcases hn with hn | hn
   ·exact h1 hn
   ·rw [hn] at hp; exact hp rfl
  obtain ⟨a,s,b,rfl,hs,hb⟩:=h hp0
  refine ⟨a,s,b ++ [x],by simp,hs,fun y hy => ?_⟩
  rcases List.mem_append.1 hy with hy | hy
  ·exact hb y hy
  ·obtain rfl:=List.mem_singleton.1 hy; exact h1
end Rdw
structure NRowP (B0:Nat) (wx:World) (l:List Nd) (av:Value) (cs:List Value) (ivs svs:Nat → Value):Prop where
 own:wx.ownsRow B0 181 7 av l.length cs
 cells:∀ i (hi:i < l.length),cs[i * 7]? = some (.string (l[i]'hi).uid) ∧ cs[i * 7 + 1]? = some (.int .u8 (l[i]'hi).kind) ∧ cs[i * 7 + 2]? = some (ivs i) ∧ cs[i * 7 + 3]? = some (.int .u8 (l[i]'hi).x.op) ∧ cs[i * 7 + 4]? = some (.int .i64 (l[i]'hi).x.n) ∧ cs[i * 7 + 5]? = some (svs i) ∧ cs[i * 7 + 6]? = some (.int .i64 (l[i]'hi).n)
 sub:∀ i (hi:i < l.length),(l[i]'hi).uid.size ≤ maxLen ∧ InsP wx (fun b => B0 ≤ b ∧ b < wx.heap.size ∧ some b ≠ av.ownBlock) (l[i]'hi).ins (ivs i) ∧ ArgsP wx (fun b => B0 ≤ b ∧ b < wx.heap.size ∧ some b ≠ av.ownBlock) (l[i]'hi).x.args (svs i)
theorem NRowP.nil (B0:Nat) (w:World) (ivs svs:Nat → Value):NRowP B0 w [] (.slice none 0 0) [] ivs svs:=⟨⟨by simp, .inl ⟨rfl,rfl⟩⟩,fun i hi => absurd hi (Nat.not_lt_zero _),fun i hi => absurd hi (Nat.not_lt_zero _)⟩
theorem NRowP.keepB {B0:Nat} {wx wy:World} {l:List Nd} {av:Value} {cs:List Value} {ivs svs:Nat → Value} (h:NRowP B0 wx l av cs ivs svs) (hs:wx.heap.size ≤ wy.heap.size) (hk:∀ b,B0 ≤ b → b < wx.heap.size → wy.heap[b]? = wx.heap[b]?):NRowP B0 wy l av cs ivs svs:=by
 refine ⟨?_,h.cells,fun i hi => ⟨(h.sub i hi).1,(h.sub i hi).2.1.keep (fun b hb => ⟨hb.1,Nat.lt_of_lt_of_le hb.2.1 hs,hb.2.2⟩) (fun b hb => hk b hb.1 hb.2.1),(h.sub i hi).2.2.keep (fun b hb => ⟨hb.1,Nat.lt_of_lt_of_le hb.2.1 hs,hb.2.2⟩) (fun b hb => hk b hb.1 hb.2.1)⟩⟩
 obtain ⟨q1,q2⟩:=h.own
 refine ⟨q1,q2.imp id ?_⟩
 rintro ⟨g,cap,cur,hv,hb,hg,r⟩
 exact ⟨g,cap,cur,hv,hb,(hk g hb (Array.getElem?_eq_some_iff.1 hg).1).trans hg,r⟩
theorem NRowP.nodes {B0 B:Nat} {wx:World} {l:List Nd} {av:Value} {cs:List Value} {ivs svs:Nat → Value} (h:NRowP B0 wx l av cs ivs svs) (hB:wx.heap.size ≤ B):NodesAt wx B l av:=by
 obtain ⟨⟨h1,h2⟩,hc,hs⟩:=h
 rcases h2 with ⟨rfl,h0⟩ | ⟨g,cap,cur,rfl,hb,hg,hn,hcp,hsz,ht⟩
 ·exact ⟨none,0,by rw [h0],by omega,Nat.zero_le _, .inl h0⟩
 ·have hlt:g < wx.heap.size:=(Array.getElem?_eq_some_iff.1 hg).1
  have cell:∀ q,q < l.length * 7 → wx.cell? ⟨g,0 + q,none⟩ = cs[q]? := fun q hq => by
   rw [Nat.zero_add,cell_of_row wx g q cur 181 (0,0) hg, ← ht,List.getElem?_take,if_pos hq]
   simp
  refine ⟨_,cap,rfl,hn,hcp, .inr ⟨g,0,rfl,by omega,fun j hj => ?_⟩⟩
  obtain ⟨c0,c1,c2,c3,c4,c5,c6⟩:=hc j hj
  obtain ⟨s0,s1,s2⟩:=hs j hj
  exact ⟨s0,ivs j,svs j,(cell (j * 7) (by omega)).trans c0,(cell (j * 7 + 1) (by omega)).trans c1,(cell (j * 7 + 2) (by omega)).trans c2,(cell (j * 7 + 3) (by omega)).trans c3,(cell (j * 7 + 4) (by omega)).trans c4,
   (cell (j * 7 + 5) (by omega)).trans c5,(cell (j * 7 + 6) (by omega)).trans c6,s1.sl (fun b hb => Nat.lt_of_lt_of_le hb.2.1 hB),s2.toAt (fun b hb => Nat.lt_of_lt_of_le hb.2.1 hB)⟩
theorem ArgsP.toIn {w:World} {P:Nat → Prop} {l:List Ex} {v:Value} (h:ArgsP w P l v):ArgsIn w P l v:=by
 induction h with
 | nil a cap hm => exact .nil a cap hm
 | cons l b off cap sv hl hb hcap hm h0 h1 h2 _ ih => exact .cons l b off cap sv hl hb hcap hm h0 h1 h2 ih
theorem NRowP.nodesIn {B0:Nat} {wx:World} {l:List Nd} {av:Value} {cs:List Value} {ivs svs:Nat → Value} (h:NRowP B0 wx l av cs ivs svs):NodesIn wx (fun b => B0 ≤ b ∧ b < wx.heap.size) l av:=by
 obtain ⟨⟨h1,h2⟩,hc,hs⟩:=h
 rcases h2 with ⟨rfl,h0⟩ | ⟨g,cap,cur,rfl,hb,hg,hn,hcp,hsz,ht⟩
 ·exact ⟨none,0,by rw [h0],by omega,Nat.zero_le _, .inl h0⟩
 ·have hlt:g < wx.heap.size:=(Array.getElem?_eq_some_iff.1 hg).1
  have cell:∀ q,q < l.length * 7 → wx.cell? ⟨g,0 + q,none⟩ = cs[q]? := fun q hq => by
   rw [Nat.zero_add,cell_of_row wx g q cur 181 (0,0) hg, ← ht,List.getElem?_take,if_pos hq]
   simp
  refine ⟨_,cap,rfl,hn,hcp, .inr ⟨g,0,rfl,⟨hb,hlt⟩,fun j hj => ?_⟩⟩
  obtain ⟨c0,c1,c2,c3,c4,c5,c6⟩:=hc j hj
  obtain ⟨s0,s1,s2⟩:=hs j hj
  exact ⟨s0,ivs j,svs j,(cell (j * 7) (by omega)).trans c0,(cell (j * 7 + 1) (by omega)).trans c1,(cell (j * 7 + 2) (by omega)).trans c2,(cell (j * 7 + 3) (by omega)).trans c3,(cell (j * 7 + 4) (by omega)).trans c4,
   (cell (j * 7 + 5) (by omega)).trans c5,(cell (j * 7 + 6) (by omega)).trans c6,(SlP.of_ins s1).keep (fun b hb => ⟨hb.1,hb.2.1⟩) (fun _ _ => rfl),s2.toIn.mono (fun b hb => ⟨hb.1,hb.2.1⟩)⟩
theorem NRowP.snoc {B0:Nat} {wx w4 w5:World} {l:List Nd} {av:Value} {cs:List Value} {ivs svs:Nat → Value} {g capg:Nat} {y:Nd} {iv sv:Value} {o:Obj} (h:NRowP B0 w4 l av cs ivs svs) (hx:∀ q,av.ownBlock = some q → q < wx.heap.size) (hxs:wx.heap.size ≤ w4.heap.size) (hB:B0 ≤ wx.heap.size)
  (hu:y.uid.size ≤ maxLen) (hi:InsP w4 (fun b => wx.heap.size ≤ b ∧ b < w4.heap.size) y.ins iv) (hy:ArgsP w4 (fun b => wx.heap.size ≤ b ∧ b < w4.heap.size) y.x.args sv) (hg:(w4.alloc o).grownBy w5 av.ownBlock) (hat:av.ownBlock = some g ∨ g = (w4.alloc o).heap.size) (hlt:g < w5.heap.size)
  (hown:w5.ownsRow B0 181 7 (.slice (some ⟨g,0,none⟩) (l.length + 1) capg) (l.length + 1) (cs ++ [.string y.uid, .int .u8 y.kind,iv, .int .u8 y.x.op, .int .i64 y.x.n,sv, .int .i64 y.n])) :
  NRowP B0 w5 (l ++ [y]) (.slice (some ⟨g,0,none⟩) (l.length + 1) capg) (cs ++ [.string y.uid, .int .u8 y.kind,iv, .int .u8 y.x.op, .int .i64 y.x.n,sv, .int .i64 y.n]) (fun i => if i = l.length then iv else ivs i) (fun i => if i = l.length then sv else svs i):=by
 have hl:(l ++ [y]).length = l.length + 1:=by simp
 have hcl:cs.length = l.length * 7:=h.own.1
 have hsz:(w4.alloc o).heap.size = w4.heap.size + 1:=by simp
 have hgs:=hg.size
 have keepB:∀ b,b < w4.heap.size → some b ≠ av.ownBlock → w5.heap[b]? = w4.heap[b]? := fun b hb hn => (hg.block b (by omega) hn).trans (alloc_old w4 o b hb)
 have old:∀ b,(B0 ≤ b ∧ b < w4.heap.size ∧ some b ≠ av.ownBlock) → B0 ≤ b ∧ b < w5.heap.size ∧ some b ≠ (Value.slice (some ⟨g,0,none⟩) (l.length + 1) capg).ownBlock:=fun b hb => ⟨hb.1,by have:=hb.2.1; omega,by
  simp only [Value.ownBlock,ne_eq,Option.some.injEq]
  intro e
  rcases hat with h1 | h1
  ·exact hb.2.2 (by rw [h1,e])
  ·have:=hb.2.1; omega⟩
 have new:∀ b,(wx.heap.size ≤ b ∧ b < w4.heap.size) → B0 ≤ b ∧ b < w5.heap.size ∧ some b ≠ (Value.slice (some ⟨g,0,none⟩) (l.length + 1) capg).ownBlock:=fun b hb => ⟨by have:=hb.1; omega,by have:=hb.2; omega,by
  simp only [Value.ownBlock,ne_eq,Option.some.injEq]
  intro e
  rcases hat with h1 | h1
  ·have:=hx g h1; have:=hb.1; omega
  ·have:=hb.2; omega⟩
 have keepN:∀ b,(wx.heap.size ≤ b ∧ b < w4.heap.size) → w5.heap[b]? = w4.heap[b]? := fun b hb => keepB b hb.2 (fun e => by have:=hx b e.symm; have:=hb.1; omega)
 refine ⟨by rw [hl]; exact hown,fun i hi' => ?_,fun i hi' => ?_⟩
 ·by_cases hil:i < l.length
  ·obtain ⟨c0,c1,c2,c3,c4,c5,c6⟩:=h.cells i hil
   simp only [if_neg (show i ≠ l.length by omega)]
   rw [List.getElem_append_left hil]
   have ap:∀ q u,cs[q]? = some u → (cs ++ [Value.string y.uid, .int .u8 y.kind,iv, .int .u8 y.x.op, .int .i64 y.x.n,sv, .int .i64 y.n])[q]? = some u:=fun q u hq => by
    rw [List.getElem?_append_left (List.getElem?_eq_some_iff.1 hq).1]; exact hq
   exact ⟨ap _ _ c0,ap _ _ c1,ap _ _ c2,ap _ _ c3,ap _ _ c4,ap _ _ c5,ap _ _ c6⟩
  ·obtain rfl:i = l.length:=by omega
   rw [List.getElem_append_right (Nat.le_refl _)]
   have ap:∀ q,(cs ++ [Value.string y.uid, .int .u8 y.kind,iv, .int .u8 y.x.op, .int .i64 y.x.n,sv, .int .i64 y.n])[l.length * 7 + q]? = [Value.string y.uid, .int .u8 y.kind,iv, .int .u8 y.x.op, .int .i64 y.x.n,sv, .int .i64 y.n][q]? := fun q => by
    rw [List.getElem?_append_right (by omega),hcl]; congr 1; omega
   have a0:=ap 0
   rw [Nat.add_zero] at a0
   simp only [Nat.sub_self,List.getElem_cons_zero,if_true]
   exact ⟨a0,ap 1,ap 2,ap 3,ap 4,ap 5,ap 6⟩
 ·by_cases hil:i < l.length
  ·simp only [if_neg (show i ≠ l.length by omega)]
   rw [List.getElem_append_left hil]
   obtain ⟨s0,s1,s2⟩:=h.sub i hil
   exact ⟨s0,s1.keep old (fun b hb => keepB b hb.2.1 hb.2.2),s2.keep old (fun b hb => keepB b hb.2.1 hb.2.2)⟩
  ·obtain rfl:i = l.length:=by omega
   rw [List.getElem_append_right (Nat.le_refl _)]
   simp only [Nat.sub_self,List.getElem_cons_zero,if_true]
   exact ⟨hu,hi.keep new keepN,hy.keep new keepN⟩
end Go.Proofs.YtpkijdkoiecpiaaGreatDoor
