/-
  Parts of the proof: OW OX OY.
-/
import Derived.Test.YtpkijdkoiecpiaaGreatDoorChecked
import Derived.Test.YtpkijdkoiecpiaaGreatDoorZS1
import Derived.Test.YtpkijdkoiecpiaaGreatDoorZS4
namespace Go.Proofs.YtpkijdkoiecpiaaGreatDoor
open Go.RowKit
set_option linter.unusedVariables false
set_option linter.unusedSimpArgs false
def Bq (w:World) (b:Nat) (v:Value):Prop:=∃ t,Blk w b t #[v]
namespace Bq
variable {w w':World} {b:Nat} {v:Value}
theorem cell (h:Bq w b v):w.cell? ⟨b,0,none⟩ = some v:=by obtain ⟨t,h⟩:=h; rw [h.cell 0]; rfl
theorem fr {S:Nat → Prop} (h:Bq w b v) (hf:Fr S w w') (hs : ¬ S b):Bq w' b v:=let ⟨t,h⟩:=h; ⟨t,h.fr hf hs⟩
theorem alloc (h:Bq w b v) (o:Obj):Bq (w.alloc o) b v:=let ⟨t,h⟩:=h; ⟨t,h.alloc o⟩
theorem lt (h:Bq w b v):b < w.heap.size:=let ⟨t,h⟩:=h; h.lt
theorem keep (h:Bq w b v) (hk:w'.heap[b]? = w.heap[b]?):Bq w' b v:=let ⟨t,h⟩:=h; ⟨t,hk.trans h⟩
theorem new_at (w:World) (v:Value) (t:TypeId) {k:Nat} (hk:k = w.heap.size):Bq (w.alloc (.cells #[v] t)) k v:=⟨t,Blk.new_at w _ _ hk⟩
end Bq
def px (b:Nat):Value := .pointer (some ⟨b,0,none⟩)
def appPartV (bf bs:Nat):Value := .func (.func 129) #[] #[px bf,px bs]
def appDoesV (bp bs:Nat):Value := .func (.func 131) #[] #[px bp,px bs]
def cutV (bf bn:Nat):Value := .func (.func 133) #[] #[px bf,px bn]
def mvV (ba bb:Nat):Value := .func (.func 134) #[] #[px ba,px bb]
def ChgAt (w:World) (P:Nat → Prop) (v1 v2:Value):Chg → Prop
 | .app f s => ∃ bp bs bf,v1 = appDoesV bp bs ∧ v2 = appPartV bf bs ∧ Bq w bp v2 ∧ Bq w bs (.string s) ∧ Bq w bf (.int .i64 f) ∧ P bp ∧ P bs ∧ P bf
 | .cut f n => ∃ bf bn,v1 = cutV bf bn ∧ v2 = .nilFunc ∧ Bq w bf (.int .i64 f) ∧ Bq w bn (.int .i64 n) ∧ P bf ∧ P bn
 | .mv a b => ∃ ba bb,v1 = mvV ba bb ∧ v2 = .nilFunc ∧ Bq w ba (.int .i64 a) ∧ Bq w bb (.int .i64 b) ∧ P ba ∧ P bb
theorem ChgAt.keep {w w':World} {P Q:Nat → Prop} {v1 v2:Value} {c:Chg} (h:ChgAt w P v1 v2 c) (hPQ:∀ b,P b → Q b) (hk:∀ b,P b → w'.heap[b]? = w.heap[b]?):ChgAt w' Q v1 v2 c:=by
 cases c with
 | app f s =>
  obtain ⟨bp,bs,bf,h1,h2,h3,h4,h5,p1,p2,p3⟩:=h
  exact ⟨bp,bs,bf,h1,h2,h3.keep (hk _ p1),h4.keep (hk _ p2),h5.keep (hk _ p3),hPQ _ p1,hPQ _ p2,hPQ _ p3⟩
 | cut f n =>
  obtain ⟨bf,bn,h1,h2,h3,h4,p1,p2⟩:=h
  exact ⟨bf,bn,h1,h2,h3.keep (hk _ p1),h4.keep (hk _ p2),hPQ _ p1,hPQ _ p2⟩
 | mv a b =>
  obtain ⟨ba,bb,h1,h2,h3,h4,p1,p2⟩:=h
  exact ⟨ba,bb,h1,h2,h3.keep (hk _ p1),h4.keep (hk _ p2),hPQ _ p1,hPQ _ p2⟩
def rowB (v:Value) (g:Nat):Prop:=∃ o n c,v = .slice (some ⟨g,o,none⟩) n c
structure LooseAt (w:World) (M:Nat → Prop) (D:Nat) (v:Value) (cs:List Chg):Prop where
 ex:∃ cells,w.ownsRow 0 124 2 v cs.length cells ∧ ∀ i (h:i < cs.length),∃ v1 v2,cells[i * 2]? = some v1 ∧ cells[i * 2 + 1]? = some v2 ∧ ChgAt w (fun b => M b ∧ b ≠ D ∧ ¬ rowB v b) v1 v2 cs[i]
 row:∀ g,rowB v g → M g ∧ g ≠ D
structure DkAt (w:World) (M:Nat → Prop) (D:Nat) (d:Dk):Prop where
 inv:d.Inv
 mem:M D
 lt:∀ b,M b → b < w.heap.size
 ex:∃ lv,Blk w D 101 (dkC d lv) ∧ LooseAt w M D lv d.loose
theorem ownsRow_keep {w w':World} {base:Nat} {e:TypeId} {size:Nat} {v:Value} {n:Nat} {xs:List Value} (h:w.ownsRow base e size v n xs) (hk:∀ g,rowB v g → w'.heap[g]? = w.heap[g]?):w'.ownsRow base e size v n xs:=by
 obtain ⟨h1,h2⟩:=h
 refine ⟨h1, ?_⟩
 rcases h2 with h2 | ⟨g,cap,cur,rfl,hb,hg,hr⟩
 ·exact .inl h2
 ·exact .inr ⟨g,cap,cur,rfl,hb,(hk g ⟨_,_,_,rfl⟩).trans hg,hr⟩
theorem LooseAt.keep {w w':World} {M N:Nat → Prop} {D:Nat} {v:Value} {cs:List Chg} (h:LooseAt w M D v cs) (hMN:∀ b,M b → N b) (hk:∀ b,M b → b ≠ D → w'.heap[b]? = w.heap[b]?):LooseAt w' N D v cs:=by
 obtain ⟨⟨cells,ho,hc⟩,hr⟩:=h
 refine ⟨⟨cells,ownsRow_keep ho fun g hg => hk g (hr g hg).1 (hr g hg).2,fun i hi => ?_⟩,fun g hg => ⟨hMN g (hr g hg).1,(hr g hg).2⟩⟩
 obtain ⟨v1,v2,c1,c2,c3⟩:=hc i hi
 exact ⟨v1,v2,c1,c2,c3.keep (fun b hb => ⟨hMN b hb.1,hb.2⟩) fun b hb => hk b hb.1 hb.2.1⟩
theorem LooseAt.nil (w:World) (M:Nat → Prop) (D:Nat):LooseAt w M D (.slice none 0 0) [] :=
 ⟨⟨[],World.ownsRow_nil _ _ _ _,fun i hi => absurd hi (Nat.not_lt_zero _)⟩,fun g ⟨o,n,c,h⟩ => by simp at h⟩
def DkTo (w w':World) (M:Nat → Prop) (D:Nat) (d':Dk):Prop:=Fr M w w' ∧ ∃ N,(∀ b,N b → M b ∨ w.heap.size ≤ b) ∧ DkAt w' N D d'
namespace DkAt
variable {w w':World} {M N:Nat → Prop} {D:Nat} {d:Dk}
theorem keep (h:DkAt w M D d) (hs:w.heap.size ≤ w'.heap.size) (hk:∀ b,M b → w'.heap[b]? = w.heap[b]?):DkAt w' M D d:=by
 obtain ⟨lv,h1,h2⟩:=h.ex
 exact ⟨h.inv,h.mem,fun b hb => Nat.lt_of_lt_of_le (h.lt b hb) hs,lv,(hk D h.mem).trans h1,h2.keep (fun _ k => k) fun b hb _ => hk b hb⟩
theorem fr {S:Nat → Prop} (h:DkAt w M D d) (hf:Fr S w w') (hS:∀ b,M b → ¬ S b):DkAt w' M D d:=h.keep hf.size fun b hb => hf.block b (h.lt b hb) (hS b hb)
theorem alloc (h:DkAt w M D d) (o:Obj):DkAt (w.alloc o) M D d:=h.keep (by simp) fun b hb => alloc_old w o b (h.lt b hb)
theorem below (h:DkAt w M D d) (hb:Below w.heap.size w w'):DkAt w' M D d:=h.keep hb.size fun b hm => hb.block b (h.lt b hm)
theorem tos (h:DkAt w M D d):DkTo w w M D d:=⟨Fr.refl _ _,M,fun _ hb => .inl hb,h⟩
theorem toB (h:DkAt w M D d) (hb:Below w.heap.size w w'):DkTo w w' M D d:=⟨Fr.of_new hb,M,fun _ hb => .inl hb,h.below hb⟩
theorem set {d':Dk} {lv:Value} (h:DkAt w M D d) (hi:d'.Inv) (hb:Blk w' D 101 (dkC d' lv)) (hf:Fr (· = D) w w') (hl:LooseAt w M D lv d'.loose):DkTo w w' M D d' :=
 ⟨hf.mono (fun k _ e => e ▸ h.mem),M,fun _ hb => .inl hb,hi,h.mem,fun b hm => Nat.lt_of_lt_of_le (h.lt b hm) hf.size,lv,hb,hl.keep (fun _ k => k) fun b hm hne => hf.block b (h.lt b hm) hne⟩
end DkAt
theorem DkTo.trans {w w1 w2:World} {M:Nat → Prop} {D:Nat} {d1 d2:Dk} (h:DkTo w w1 M D d1) (k:∀ N,DkAt w1 N D d1 → DkTo w1 w2 N D d2):DkTo w w2 M D d2:=by
 obtain ⟨hf,N,hN,h1⟩:=h
 obtain ⟨hf2,N2,hN2,h2⟩:=k N h1
 refine ⟨hf.step hf2 (fun _ _ h => h) (fun i hi hn => ?_),N2,fun b hb => ?_,h2⟩
 ·rcases hN i hn with h | h
  ·exact h
  ·omega
 ·rcases hN2 b hb with h | h
  ·rcases hN b h with h | h
   ·exact .inl h
   ·exact .inr h
  ·exact .inr (Nat.le_trans hf.size h)
theorem Fr.undrew {S:Nat → Prop} {a b:World} (h:Fr S a.drew b):Fr S a b:=⟨h.os,h.tape,h.output,h.size,h.block⟩
theorem dis_c (f:Int) (w:World):Calls Tryz.prog 127 #[.int .i64 f] w fun e w' => e = .returned (.bool (Dk.isF f)) ∧ w = w':=by
 unfold Dk.isF
 by_cases h:0 ≤ f
 ·have hd:decide (0 ≤ f) = true:=decide_eq_true h
  go_enter Tryz.func127,Tryz.ntmps127
  go_wp2_with fail
  go_ret
  exact ⟨ret_bool (by simp [hd]),rfl⟩
 ·have hd:decide (0 ≤ f) = false:=decide_eq_false h
  go_enter Tryz.func127,Tryz.ntmps127
  go_wp2_with fail
  go_ret
  exact ⟨ret_bool (by simp [hd]),rfl⟩
def rdy (off:Bool) (l:List Int):Int:=if off = true then 50 else if l.all Dk.isF = true then 0 else 2
set_option maxHeartbeats 1000000 in
theorem ready_c (D:Nat) (w:World) (d:Dk) (lv:Value) (hb:Blk w D 101 (dkC d lv)) (hd:d.Len) (l:List Int) (n B:Nat) (v:Value) (hv:Sl w B 1 v n (l.map (Value.int .i64))) :
  Calls Tryz.prog 68 #[px D,v] w fun e w' => e = .returned (.int .i64 (rdy d.off l)) ∧ w = w':=by
 have c34:=(hb.cell 34).trans (dkC_34 hd)
 have hn:l.length = n:=by have:=hv.1; rw [List.length_map] at this; omega
 have HV:=Lib.hid hv
 obtain ⟨_,a,cap,rfl,hcap,hmx,_⟩:=hv
 have HE:Hid (rdy d.off l = if d.off = true then 50 else if l.all Dk.isF = true then 0 else 2):=rfl
 generalize rdy d.off l = R at *
 unfold px
 have hmx2:n ≤ 9223372036854775807:=by unfold maxLen at hmx; omega
 generalize d.off = o at *
 cases o
 ·have HN:=Lib.hid hn
  clear hn
  go_enter Tryz.func68,Tryz.ntmps68
  go_wp2_with fail
  go_loop [17] (fun q => ∃ k:Nat,q = .int .i64 k ∧ k ≤ n ∧ Hid ((l.take k).all Dk.isF = true)) (fun q => n - (intOf q).toNat)
  case atStart => exact ⟨0,rfl,Nat.zero_le _,rfl⟩
  case round =>
   obtain ⟨k,rfl,hk,hall⟩:=hrel
   by_cases hlt:k < n
   ·obtain ⟨b,off,cp,e1,_,hl,p0⟩:=HV.out.int k hlt
    simp only [Value.slice.injEq,true_and] at e1
    obtain ⟨rfl,rfl⟩:=e1
    have htk:(l.take (k + 1)).all Dk.isF = Dk.isF l[k]:=by
     rw [List.take_succ_eq_append_getElem hl,List.all_append,hall.out]
     simp
    have HLM:=Lib.hid (List.getElem_mem hl)
    generalize hx:l[k] = x at *
    clear hx
    cases hf:Dk.isF x
    ·have HR:Hid (R = 2):=by
      show _ = _
      rw [HE.out,if_neg (by decide),if_neg]
      intro h
      have:=List.all_eq_true.1 h _ HLM.out
      rw [hf] at this
      exact absurd this (by decide)
     clear htk
     go_wp2_with (go_at_call 127; refine (dis_c _ _).mono ?_; rintro e w1 ⟨rfl,rfl⟩; rw [hf])
     first | go_ret | (rw [Exit.noGoto_ret]; go_ret)
     rw [HR.out]
     exact ⟨rfl,rfl⟩
    ·rw [hf] at htk
     have HT:=Lib.hid htk
     clear htk
     go_wp2_with (go_at_call 127; refine (dis_c _ _).mono ?_; rintro e w1 ⟨rfl,rfl⟩; rw [hf])
     go_round
     case rel => exact ⟨k + 1,by go_num,by omega,HT⟩
     case measure => simp [intOf]; omega
   ·obtain rfl:k = n:=by omega
    have HR:Hid (R = 0):=by
     have:=hall.out
     rw [List.take_of_length_le (by rw [HN.out]; exact Nat.le_refl _)] at this
     show _ = _
     rw [HE.out,if_neg (by decide),if_pos this]
    clear hall
    go_wp2_with fail
    go_ret
    rw [HR.out]
    exact ⟨rfl,rfl⟩
 ·have HR:Hid (R = 50):=by show _ = _; rw [HE.out,if_pos rfl]
  go_enter Tryz.func68,Tryz.ntmps68
  go_wp2_with fail
  go_ret
  rw [HR.out]
  exact ⟨rfl,rfl⟩
theorem dk_op_set {w:World} {M:Nat → Prop} {D:Nat} {d d':Dk} (h:DkAt w M D d) (hi:d'.Inv) (hl:d'.loose = d.loose) {w':World} (hf:Fr (· = D) w w') (hb:∀ lv,Blk w D 101 (dkC d lv) → Blk w' D 101 (dkC d' lv)):DkTo w w' M D d':=by
 obtain ⟨lv,h1,h2⟩:=h.ex
 exact h.set hi (hb lv h1) hf (by rw [hl]; exact h2)
set_option maxHeartbeats 1000000 in
theorem op_b (w:World) (D:Nat) (d:Dk) (lv:Value) (hb:Blk w D 101 (dkC d lv)) (hld:d.Len) (hr1 : -1 ≤ d.left) (hr2:d.left ≤ 9223372036854775807) :
  Calls Tryz.prog 135 #[px D] w fun e w' => e = .returned (.int .i64 d.op.2) ∧ Blk w' D 101 (dkC d.op.1 lv) ∧ Fr (· = D) w w':=by
 have c35:=(hb.cell 35).trans (dkC_35 hld)
 have f34:=hb.free 34
 have f35:=hb.free 35
 have c34:=(hb.cell 34).trans (dkC_34 hld)
 have HB:=Lib.hid hb
 unfold px
 have HE:Hid (d.op = if d.left = 0 then ({ d with off:=true },50) else if 0 < d.left then ({ d with left:=d.left - 1 },0) else (d,0)):=rfl
 generalize d.op = R at *
 by_cases h0:d.left = 0
 ·have HR:Hid (R = ({ d with off:=true },50)):=by show _ = _; rw [HE.out,if_pos h0]
  rw [h0] at c35
  clear h0 HE hb
  go_enter Tryz.func135,Tryz.ntmps135
  go_wp2_with fail
  go_ret
  rw [HR.out]
  have hF:Fr (· = D) w (w.setCell ⟨D,34,none⟩ (.bool true)):=(Fr.refl (fun x => x = D) w).setCell (p:=⟨D,34,none⟩) (.inl rfl) _
  have:=HB.out.set 34 (.bool true)
  rw [dkC_set_34 hld] at this
  exact ⟨rfl,this,hF⟩
 ·by_cases hp:0 < d.left
  ·have HR:Hid (R = ({ d with left:=d.left - 1 },0)):=by show _ = _; rw [HE.out,if_neg h0,if_pos hp]
   have d0:(d.left == 0) = false:=by rw [beq_eq_false_iff_ne]; exact h0
   have d1:decide (0 < d.left) = true:=decide_eq_true hp
   generalize hL:d.left = L at c35 hr1 hr2 d0 d1 h0 hp
   have HLL:=Lib.hid hL
   clear hL HE h0 hb
   go_enter Tryz.func135,Tryz.ntmps135
   go_wp2_with fail
   go_ret
   obtain rfl:=HLL.out
   rw [HR.out]
   have hF:Fr (· = D) w (w.setCell ⟨D,35,none⟩ (.int .i64 (d.left - 1))):=(Fr.refl (fun x => x = D) w).setCell (p:=⟨D,35,none⟩) (.inl rfl) _
   have:=HB.out.set 35 (.int .i64 (d.left - 1))
   rw [dkC_set_35 hld] at this
   exact ⟨rfl,this,hF⟩
  ·have HR:Hid (R = (d,0)):=by show _ = _; rw [HE.out,if_neg h0,if_neg hp]
   have d0:(d.left == 0) = false:=by rw [beq_eq_false_iff_ne]; exact h0
   have d1:decide (0 < d.left) = false:=decide_eq_false hp
   generalize d.left = L at c35 hr1 hr2 d0 d1 h0 hp
   clear HE h0 hb
   go_enter Tryz.func135,Tryz.ntmps135
   go_wp2_with fail
   go_ret
   rw [HR.out]
   exact ⟨rfl,HB.out,Fr.refl _ _⟩
theorem LooseAt.slice {w:World} {M:Nat → Prop} {D:Nat} {v:Value} {cs:List Chg} (h:LooseAt w M D v cs):∃ a cap,v = .slice a cs.length cap ∧ cs.length ≤ cap ∧ cap ≤ maxLen:=by
 obtain ⟨⟨cells,⟨_,ho⟩,_⟩,_⟩:=h
 rcases ho with ⟨rfl,h0⟩ | ⟨g,cap,cur,rfl,hb,hg,hn,hc,hs,ht⟩
 ·exact ⟨none,0,by rw [h0],by omega,by unfold maxLen; omega⟩
 ·exact ⟨_,cap,rfl,hn,hc⟩
theorem int_one {w:World} {b:Nat} {t:TypeId} {f:Int} (h:Blk w b t #[.int .i64 f]):Sl w w.heap.size 1 (.slice (some ⟨b,0,none⟩) 1 1) 1 ([f].map (Value.int .i64)) :=
 ⟨rfl,_,1,rfl,Nat.le_refl _,by unfold maxLen; omega, .inr ⟨b,0,rfl,h.lt,fun j hj => by rw [Nat.zero_add,h.cell]; simp⟩⟩
theorem rdy_nil (d:Dk):rdy d.off [] = if d.off = true then 50 else 0:=by unfold rdy; simp
set_option maxHeartbeats 1000000 in
theorem Power_c (w:World) (M:Nat → Prop) (D:Nat) (d:Dk) (h:DkAt w M D d) (n:Int) (hn:n ≤ 9223372036854775807) :
  Calls Tryz.prog 27 #[px D, .int .i64 n] w fun e w' => e = .returned (.int .i64 (d.power n).2) ∧ DkTo w w' M D (d.power n).1:=by
 have hin:=h.inv.power n hn
 have hld:=h.inv.len
 obtain ⟨lv,hb,hlo⟩:=h.ex
 have f35:=hb.free 35
 have c35:=(hb.cell 35).trans (dkC_35 hld)
 have HR:=Lib.hid (ready_c D w d lv hb hld [] 0 w.heap.size (.slice none 0 0) (Sl.nil _ _ _))
 rw [rdy_nil] at HR
 have HH:=Lib.hid h
 have HI:=Lib.hid hin
 clear hin hlo h
 unfold px at HR ⊢
 have HE:Hid (d.power n = if d.off = true then (d,50) else if n < 0 then (d,2) else ({ d with left:=n },0)):=rfl
 generalize d.power n = R at *
 cases ho:d.off
 ·rw [ho,if_neg (by decide)] at HR
  by_cases h0:n < 0
  ·have HV:Hid (R = (d,2)):=by show _ = _; rw [HE.out,ho,if_neg (by decide),if_pos h0]
   have hd:decide (n < 0) = true:=decide_eq_true h0
   clear HE ho
   go_enter Tryz.func27,Tryz.ntmps27
   go_wp2_with (go_at_call 68; refine HR.out.mono ?_; rintro e w1 ⟨rfl,rfl⟩)
   go_ret
   rw [HV.out]
   exact ⟨rfl,HH.out.tos⟩
  ·have HV:Hid (R = ({ d with left:=n },0)):=by show _ = _; rw [HE.out,ho,if_neg (by decide),if_neg h0]
   have hd:decide (n < 0) = false:=decide_eq_false h0
   clear HE ho
   go_enter Tryz.func27,Tryz.ntmps27
   go_wp2_with (go_at_call 68; refine HR.out.mono ?_; rintro e w1 ⟨rfl,rfl⟩)
   go_ret
   have hi:=HI.out
   rw [HV.out] at hi ⊢
   have hF:Fr (· = D) w (w.setCell ⟨D,35,none⟩ (.int .i64 n)):=(Fr.refl (fun x => x = D) w).setCell (p:=⟨D,35,none⟩) (.inl rfl) _
   refine ⟨rfl,dk_op_set HH.out hi rfl hF (fun lv hb => ?_)⟩
   have:=hb.set 35 (.int .i64 n)
   rw [dkC_set_35 hld] at this
   exact this
 ·rw [ho,if_pos rfl] at HR
  have HV:Hid (R = (d,50)):=by show _ = _; rw [HE.out,if_pos ho]
  clear HE ho
  go_enter Tryz.func27,Tryz.ntmps27
  go_wp2_with (go_at_call 68; refine HR.out.mono ?_; rintro e w1 ⟨rfl,rfl⟩)
  go_ret
  rw [HV.out]
  exact ⟨rfl,HH.out.tos⟩
theorem clip_if (n:Int) (m:Nat):(if (if (m:Int) < n then (m:Int) else n) < 0 then 0 else if (m:Int) < n then (m:Int) else n).toNat = clip n m:=by unfold clip; split <;> split <;> omega
theorem ext_all (s:ByteArray):s.extract 0 s.size = s:=by
 apply ByteArray.ext
 rw [ByteArray.data_extract]
 exact Array.extract_size
theorem clip_all (m:Nat):clip (m:Int) m = m:=by unfold clip; omega
set_option maxHeartbeats 1000000 in
theorem appPart_c (D o bf bs f:Nat) (s x:ByteArray) (n:Int) (t:TypeId) (cs:Array Value) (w:World) (hb:Blk w D t cs) (hf:f < 16) (hc:cs[o + f]? = some (.string x)) (hs:x.size + s.size ≤ 140737488355328 ∨ x.size + clip n s.size ≤ 140737488355328 ∧ s.size ≤ 140737488355328) (h1:Bq w bf (.int .i64 f)) (h2:Bq w bs (.string s)) :
  Calls Tryz.prog 129 #[.pointer (some ⟨D,o,none⟩), .int .i64 n,px bf,px bs] w fun e w' => e = .returned (.tuple #[]) ∧ Blk w' D t (cs.setIfInBounds (o + f) (.string (x ++ s.extract 0 (clip n s.size)))) ∧ Fr (· = D) w w':=by
 have c:=(hb.cell (o + f)).trans hc
 have fz:=hb.free (o + f)
 have c1:=h1.cell
 have c2:=h2.cell
 have hcl:=clip_le n s.size
 have HB:=Lib.hid hb
 clear hb h1 h2 hc
 unfold px
 go_enter Tryz.func129,Tryz.ntmps129
 go_region
 go_end0
 rw [clip_if]
 exact ⟨rfl,(HB.out.set _ _).drew,((Fr.refl (fun x => x = D) w).setCell (p:=⟨D,o + f,none⟩) (.inl rfl) _).drew⟩
set_option maxHeartbeats 1000000 in
theorem appDoes_c (D o bp bf bs f:Nat) (s x:ByteArray) (t:TypeId) (cs:Array Value) (w:World) (hb:Blk w D t cs) (hf:f < 16) (hc:cs[o + f]? = some (.string x)) (hs:x.size + s.size ≤ 140737488355328) (h0:Bq w bp (appPartV bf bs)) (h1:Bq w bf (.int .i64 f)) (h2:Bq w bs (.string s)) :
  Calls Tryz.prog 131 #[.pointer (some ⟨D,o,none⟩),px bp,px bs] w fun e w' => e = .returned (.tuple #[]) ∧ Blk w' D t (cs.setIfInBounds (o + f) (.string (x ++ s))) ∧ Fr (· = D) w w':=by
 have HP:=Lib.hid (appPart_c D o bf bs f s x s.size t cs w hb hf hc (.inl hs) h1 h2)
 rw [clip_all,ext_all] at HP
 have c0:=h0.cell
 have c2:=h2.cell
 unfold appPartV px at c0
 unfold px at HP ⊢
 clear hb h1 h2 hc h0
 go_enter Tryz.func131,Tryz.ntmps131
 go_wp2_with fail
 refine HP.out.mono ?_
 rintro e w1 ⟨rfl,h3,h4⟩
 go_wp2_with fail
 go_end0
 exact ⟨rfl,h3,h4⟩
set_option maxHeartbeats 1000000 in
theorem cutDoes_c (D o bf bn f n:Nat) (x:ByteArray) (t:TypeId) (cs:Array Value) (w:World) (hb:Blk w D t cs) (hf:f < 16) (hc:cs[o + f]? = some (.string x)) (hs:n ≤ x.size) (h1:Bq w bf (.int .i64 f)) (h2:Bq w bn (.int .i64 n)) :
  Calls Tryz.prog 133 #[.pointer (some ⟨D,o,none⟩),px bf,px bn] w fun e w' => e = .returned (.tuple #[]) ∧ Blk w' D t (cs.setIfInBounds (o + f) (.string (x.extract 0 n))) ∧ Fr (· = D) w w':=by
 have c:=(hb.cell (o + f)).trans hc
 have fz:=hb.free (o + f)
 have c1:=h1.cell
 have c2:=h2.cell
 have HB:=Lib.hid hb
 clear hb h1 h2 hc
 unfold px
 go_enter Tryz.func133,Tryz.ntmps133
 go_region
 go_end0
 exact ⟨rfl,(HB.out.set _ _).drew,((Fr.refl (fun x => x = D) w).setCell (p:=⟨D,o + f,none⟩) (.inl rfl) _).drew⟩
set_option maxHeartbeats 1000000 in
theorem mvDoes_c (D o ba bb a b:Nat) (x y:ByteArray) (t:TypeId) (cs:Array Value) (w:World) (hb:Blk w D t cs) (ha:a < 16) (hbb:b < 16) (hab:a ≠ b) (hc:cs[o + a]? = some (.string x)) (hc2:cs[o + b]? = some (.string y)) (h1:Bq w ba (.int .i64 a)) (h2:Bq w bb (.int .i64 b)) (hn1:ba ≠ D) (hn2:bb ≠ D) :
  Calls Tryz.prog 134 #[.pointer (some ⟨D,o,none⟩),px ba,px bb] w fun e w' => e = .returned (.tuple #[]) ∧ Blk w' D t ((cs.setIfInBounds (o + b) (.string x)).setIfInBounds (o + a) (.string .empty)) ∧ Fr (· = D) w w':=by
 have c:=(hb.cell (o + a)).trans hc
 have fz:=hb.free (o + a)
 have d:=(hb.cell (o + b)).trans hc2
 have fd:=hb.free (o + b)
 have c1:=h1.cell
 have c2:=h2.cell
 have HB:=Lib.hid hb
 clear hb h1 h2 hc hc2
 have hn3:D ≠ ba:=Ne.symm hn1
 have hn4:D ≠ bb:=Ne.symm hn2
 have hab2:b ≠ a:=Ne.symm hab
 have la:(a:Int) < 16:=by omega
 have lb:(b:Int) < 16:=by omega
 unfold px
 go_enter Tryz.func134,Tryz.ntmps134
 go_region
 go_end0
 exact ⟨rfl,((HB.out.set _ _).set _ _).drew,(((Fr.refl (fun x => x = D) w).setCell (p:=⟨D,o + b,none⟩) (.inl rfl) _).setCell (p:=⟨D,o + a,none⟩) (.inl rfl) _).drew⟩
end Go.Proofs.YtpkijdkoiecpiaaGreatDoor
