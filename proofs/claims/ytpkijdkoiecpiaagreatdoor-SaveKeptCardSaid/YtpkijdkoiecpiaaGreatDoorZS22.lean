/-
  Parts of the proof: C5 C6 C7 C8 C1.
-/
import Derived.Deep.RegionHeld3
import Derived.Deep.AppendLies
import Derived.Test.YtpkijdkoiecpiaaGreatDoorZS2
import Derived.Test.YtpkijdkoiecpiaaGreatDoorZS9
import Derived.Test.YtpkijdkoiecpiaaGreatDoorZS19
namespace Go.Proofs.YtpkijdkoiecpiaaGreatDoor
open Go.RowKit
set_option linter.unusedVariables false
set_option linter.unusedSimpArgs false
inductive ArgsP (w:World) (P:Nat → Prop):List Ex → Value → Prop
 | nil (a:Option Addr) (cap:Nat) (hm:cap ≤ maxLen):ArgsP w P [] (.slice a 0 cap)
 | cons (l:List Ex) (b off cap:Nat) (sv:Nat → Value) (hl:0 < l.length) (hb:P b) (hcap:l.length ≤ cap) (hm:cap ≤ maxLen)
   (h0:∀ j (h:j < l.length),w.cell? ⟨b,off + j * 3,none⟩ = some (.int .u8 (l[j]'h).op)) (h1:∀ j (h:j < l.length),w.cell? ⟨b,off + j * 3 + 1,none⟩ = some (.int .i64 (l[j]'h).n))
   (h2:∀ j (h:j < l.length),w.cell? ⟨b,off + j * 3 + 2,none⟩ = some (sv j)) (hs:∀ j (h:j < l.length),ArgsP w P (l[j]'h).args (sv j)) :
   ArgsP w P l (.slice (some ⟨b,off,none⟩) l.length cap)
namespace ArgsP
variable {w w':World} {P:Nat → Prop} {l:List Ex} {v:Value}
theorem keep (h:ArgsP w P l v) {Q:Nat → Prop} (hPQ:∀ b,P b → Q b) (hk:∀ b,P b → w'.heap[b]? = w.heap[b]?):ArgsP w' Q l v:=by
 have hc:∀ b off,P b → w'.cell? ⟨b,off,none⟩ = w.cell? ⟨b,off,none⟩:=fun b off hb => World.cell?_of_block (hk b hb)
 induction h with
 | nil a cap hm => exact .nil a cap hm
 | cons l b off cap sv hl hb hcap hm h0 h1 h2 _ ih =>
  exact .cons l b off cap sv hl (hPQ b hb) hcap hm (fun j h => (hc _ _ hb).trans (h0 j h)) (fun j h => (hc _ _ hb).trans (h1 j h)) (fun j h => (hc _ _ hb).trans (h2 j h)) ih
theorem mono (h:ArgsP w P l v) {Q:Nat → Prop} (hPQ:∀ b,P b → Q b):ArgsP w Q l v:=h.keep hPQ fun _ _ => rfl
theorem toAt (h:ArgsP w P l v) {B:Nat} (hP:∀ b,P b → b < B):ArgsAt w B l v:=by
 induction h with
 | nil a cap hm => exact .nil a cap hm
 | cons l b off cap sv hl hb hcap hm h0 h1 h2 _ ih => exact .cons l b off cap sv hl (hP b hb) hcap hm h0 h1 h2 ih
theorem fr (h:ArgsP w P l v) {S Q:Nat → Prop} (hf:Fr S w w') (hP:∀ b,P b → b < w.heap.size ∧ ¬ S b) (hPQ:∀ b,P b → Q b):ArgsP w' Q l v :=
 h.keep hPQ fun b hb => hf.block b (hP b hb).1 (hP b hb).2
theorem slice (h:ArgsP w P l v):∃ a n cap,v = .slice a n cap:=by
 cases h with
 | nil a cap hm => exact ⟨_,_,_,rfl⟩
 | cons l b off cap sv hl hb hcap hm h0 h1 h2 hs => exact ⟨_,_,_,rfl⟩
end ArgsP
def reps {α:Type} (f:Rd → α × Rd):Nat → Rd → List α × Rd
 | 0,p => ([],p)
 | m + 1,p => ((f p).1 :: (reps f m (f p).2).1,(reps f m (f p).2).2)
def Rd.ex:Nat → Rd → Ex × Rd
 | 0,p => (.mk 0 0 [],p.fail 3)
 | k + 1,p => (.mk p.small.1 p.small.2.num.1 (reps (Rd.ex k) (p.small.2.num.2.many 3).1.toNat (p.small.2.num.2.many 3).2).1,(reps (Rd.ex k) (p.small.2.num.2.many 3).1.toNat (p.small.2.num.2.many 3).2).2)
def manyV (bn bf:Nat):Value := .func (.func 151) #[] #[.pointer (some ⟨bn,0,none⟩), .pointer (some ⟨bf,0,none⟩)]
def smallV (bn bf:Nat):Value := .func (.func 152) #[] #[.pointer (some ⟨bn,0,none⟩), .pointer (some ⟨bf,0,none⟩)]
def takeV (bf bl bn bm bt:Nat):Value := .func (.func 154) #[] #[.pointer (some ⟨bf,0,none⟩), .pointer (some ⟨bl,0,none⟩), .pointer (some ⟨bn,0,none⟩), .pointer (some ⟨bm,0,none⟩), .pointer (some ⟨bt,0,none⟩)]
structure Ct (w:World) (be bs bf bn bm bl bt:Nat):Prop where
 cl:Cl w be bs bf bn
 M:Bx w bm (manyV bn bf)
 L:Bx w bl (smallV bn bf)
 T:Bx w bt (takeV bf bl bn bm bt)
 m1:bm ≠ be ∧ bm ≠ bs
 l1:bl ≠ be ∧ bl ≠ bs
 t1:bt ≠ be ∧ bt ≠ bs
theorem Ct.fr {w w':World} {be bs bf bn bm bl bt:Nat} (h:Ct w be bs bf bn bm bl bt) (hf:Fr (FrS be bs) w w'):Ct w' be bs bf bn bm bl bt :=
 have hn:∀ {b:Nat},b ≠ be ∧ b ≠ bs → ¬ FrS be bs b:=fun hb q => by rcases q with q | q; exact hb.1 q; exact hb.2 q
 ⟨h.cl.fr hf,h.M.fr hf (hn h.m1),h.L.fr hf (hn h.l1),h.T.fr hf (hn h.t1),h.m1,h.l1,h.t1⟩
theorem Ct.alloc {w:World} {be bs bf bn bm bl bt:Nat} (h:Ct w be bs bf bn bm bl bt) (o:Obj):Ct (w.alloc o) be bs bf bn bm bl bt :=
 ⟨h.cl.alloc o,h.M.alloc o,h.L.alloc o,h.T.alloc o,h.m1,h.l1,h.t1⟩
structure TX (w wx:World) (be bs bf bn bm bl bt bx:Nat) (q:Rd) (o n:Int) (av:Value):Prop where
 fr:Fr (FrS be bs) w wx
 ps:PS wx be bs q
 ct:Ct wx be bs bf bn bm bl bt
 r:Blk wx w.heap.size 179 #[.int .u8 0, .int .i64 0, .slice none 0 0]
 x:Blk wx bx 179 #[.int .u8 o, .int .i64 n,av]
 lt:w.heap.size < bx
 el:be < w.heap.size
 sl:bs < w.heap.size
theorem ex_set {w:World} {g:Nat} {cs:Array Value} (h:Blk w g 179 cs) (hc:cs.size = 3) (a b c:Value):Blk (((w.setCell ⟨g,0,none⟩ a).setCell ⟨g,1,none⟩ b).setCell ⟨g,2,none⟩ c) g 179 #[a,b,c]:=by
 have:=((h.set 0 a).set 1 b).set 2 c
 obtain ⟨cs⟩:=cs
 match cs,hc with
 | [c0,c1,c2],_ => exact this
theorem Bx.drew {w:World} {b:Nat} {v:Value} (h:Bx w b v):Bx w.drew b v:=h
theorem PS.drew {w:World} {be bs:Nat} {p:Rd} (h:PS w be bs p):PS w.drew be bs p:=⟨h.E,h.S⟩
theorem Ct.drew {w:World} {be bs bf bn bm bl bt:Nat} (h:Ct w be bs bf bn bm bl bt):Ct w.drew be bs bf bn bm bl bt:=⟨⟨h.cl.F.drew,h.cl.N.drew,h.cl.ne,h.cl.f1,h.cl.f2,h.cl.n1,h.cl.n2⟩,h.M.drew,h.L.drew,h.T.drew,h.m1,h.l1,h.t1⟩
structure CtFar (b be bs bf bn bm bl bt:Nat):Prop where
 f:bf ≠ b
 n:bn ≠ b
 m:bm ≠ b
 l:bl ≠ b
 t:bt ≠ b
theorem CtFar.of {w:World} {be bs bf bn bm bl bt:Nat} (h:Ct w be bs bf bn bm bl bt):CtFar w.heap.size be bs bf bn bm bl bt :=
 ⟨Nat.ne_of_lt h.cl.F.lt,Nat.ne_of_lt h.cl.N.lt,Nat.ne_of_lt h.M.lt,Nat.ne_of_lt h.L.lt,Nat.ne_of_lt h.T.lt⟩
theorem Bx.other {w:World} {b:Nat} {v:Value} (h:Bx w b v) {p:Addr} (hp:b ≠ p.block) (u:Value):Bx (w.setCell p u) b v:=let ⟨t,h⟩:=h; ⟨t,h.other hp u⟩
theorem Ct.far {w:World} {be bs bf bn bm bl bt:Nat} (h:Ct w be bs bf bn bm bl bt) {p:Addr} (hp:CtFar p.block be bs bf bn bm bl bt) (u:Value):Ct (w.setCell p u) be bs bf bn bm bl bt :=
 ⟨⟨h.cl.F.other hp.f u,h.cl.N.other hp.n u,h.cl.ne,h.cl.f1,h.cl.f2,h.cl.n1,h.cl.n2⟩,h.M.other hp.m u,h.L.other hp.l u,h.T.other hp.t u,h.m1,h.l1,h.t1⟩
theorem Ct.far3 {w:World} {b be bs bf bn bm bl bt:Nat} (h:Ct w be bs bf bn bm bl bt) (hp:CtFar b be bs bf bn bm bl bt) (u v x:Value):Ct (((w.setCell ⟨b,0,none⟩ u).setCell ⟨b,1,none⟩ v).setCell ⟨b,2,none⟩ x) be bs bf bn bm bl bt :=
 ((h.far (p:=⟨b,0,none⟩) hp u).far (p:=⟨b,1,none⟩) hp v).far (p:=⟨b,2,none⟩) hp x
theorem Blk.far3 {w:World} {b c:Nat} {t:TypeId} {cs:Array Value} (h:Blk w c t cs) (hp:c ≠ b) (u v x:Value):Blk (((w.setCell ⟨b,0,none⟩ u).setCell ⟨b,1,none⟩ v).setCell ⟨b,2,none⟩ x) c t cs :=
 ((h.other (p:=⟨b,0,none⟩) hp u).other (p:=⟨b,1,none⟩) hp v).other (p:=⟨b,2,none⟩) hp x
theorem PS.far3 {w:World} {b be bs:Nat} {p:Rd} (h:PS w be bs p) (h1:be ≠ b) (h2:bs ≠ b) (u v x:Value):PS (((w.setCell ⟨b,0,none⟩ u).setCell ⟨b,1,none⟩ v).setCell ⟨b,2,none⟩ x) be bs p :=
 ⟨Blk.far3 h.E h1 u v x,Blk.far3 h.S h2 u v x⟩
set_option maxHeartbeats 2000000 in
theorem takeEx_0 (be bs bf bn bm bl bt:Nat) (p:Rd) (w:World) (h:PS w be bs p) (hc:Ct w be bs bf bn bm bl bt) :
  Calls Tryz.prog 154 #[.int .i64 0, .pointer (some ⟨bf,0,none⟩), .pointer (some ⟨bl,0,none⟩), .pointer (some ⟨bn,0,none⟩), .pointer (some ⟨bm,0,none⟩), .pointer (some ⟨bt,0,none⟩)] w fun e w' =>
   e = .returned (.agg #[.int .u8 0, .int .i64 0, .slice none 0 0]) ∧ PS w' be bs (p.fail 3) ∧ Fr (FrS be bs) w w':=by
 have hel:=h.E.lt
 have hsl:=h.S.lt
 have h1:=h.alloc (.cells #[.int .u8 0, .int .i64 0, .slice none 0 0] 179)
 have hc1:=hc.alloc (.cells #[.int .u8 0, .int .i64 0, .slice none 0 0] 179)
 have hF1:Fr (FrS be bs) w (w.alloc (.cells #[.int .u8 0, .int .i64 0, .slice none 0 0] 179)):=(Fr.refl _ w).alloc _
 have hr1:=Blk.new w #[.int .u8 0, .int .i64 0, .slice none 0 0] 179
 have hne:=hc.cl.ne
 clear h hc
 go_enter Tryz.func154,Tryz.ntmps154
 go_upto_region 1 with fail
 generalize World.alloc w _ = W at *
 have b0:=hc1.cl.F.cell
 unfold failsV at b0
 go_wp2_with fail
 refine (pfails_c be bs hne p 3 W h1).mono ?_
 rintro e w2 ⟨rfl,h2,hf2⟩
 have hr2:=hr1.fr hf2 (fun q => by rcases q with q | q <;> omega)
 clear b0
 have z0:=hr2.free 0
 have z1:=hr2.free 1
 have z2:=hr2.free 2
 have x0:=hr2.cell 0
 have x1:=hr2.cell 1
 have x2:=hr2.cell 2
 go_wp2_with fail
 refine bodyPost_ret (v := .agg #[_,_,_]) (results_cell_row rfl _ _ w.heap.size 179 _ (0,0) _ rfl (ex_set hr2 rfl _ _ _) Tryz.underlying179 rfl ?_) rfl ⟨rfl, ?_, ?_⟩
 ·as_aux_lemma => kernel_rfl
 ·exact ⟨((h2.E.other (p:=⟨w.heap.size,0,none⟩) (Nat.ne_of_lt hel) _).other (p:=⟨w.heap.size,1,none⟩) (Nat.ne_of_lt hel) _).other (p:=⟨w.heap.size,2,none⟩) (Nat.ne_of_lt hel) _,
   ((h2.S.other (p:=⟨w.heap.size,0,none⟩) (Nat.ne_of_lt hsl) _).other (p:=⟨w.heap.size,1,none⟩) (Nat.ne_of_lt hsl) _).other (p:=⟨w.heap.size,2,none⟩) (Nat.ne_of_lt hsl) _⟩
 ·exact (((hF1.trans hf2).setCell (p:=⟨w.heap.size,0,none⟩) (.inr (Nat.le_refl _)) _).setCell (p:=⟨w.heap.size,1,none⟩) (.inr (Nat.le_refl _)) _).setCell (p:=⟨w.heap.size,2,none⟩) (.inr (Nat.le_refl _)) _
def TakePost (k:Nat) (be bs:Nat) (p:Rd) (w:World) (e:Ending) (w':World):Prop :=
 ∃ sv,e = .returned (.agg #[.int .u8 (Rd.ex k p).1.op, .int .i64 (Rd.ex k p).1.n,sv]) ∧ ArgsP w' (fun b => w.heap.size ≤ b ∧ b < w'.heap.size) (Rd.ex k p).1.args sv ∧ PS w' be bs (Rd.ex k p).2 ∧ Fr (FrS be bs) w w'
def TakeC (k:Nat):Prop:=∀ (be bs bf bn bm bl bt:Nat) (p:Rd) (w:World),p.s.size ≤ 140737488355328 → PS w be bs p → Ct w be bs bf bn bm bl bt →
 Calls Tryz.prog 154 #[.int .i64 (k:Int), .pointer (some ⟨bf,0,none⟩), .pointer (some ⟨bl,0,none⟩), .pointer (some ⟨bn,0,none⟩), .pointer (some ⟨bm,0,none⟩), .pointer (some ⟨bt,0,none⟩)] w (TakePost k be bs p w)
theorem Rd.small_size (p:Rd):p.small.2.s.size ≤ p.s.size:=by
 unfold Rd.small
 split
 ·rw [Rd.fail_s]; exact p.num_size
 ·exact p.num_size
theorem Rd.many_size (m:Int) (p:Rd):(p.many m).2.s.size ≤ p.s.size:=by
 unfold Rd.many
 split
 ·show (p.num.2.fail 3).s.size ≤ _; rw [Rd.fail_s]; exact p.num_size
 ·exact p.num_size
theorem Rd.many_le (m:Int) (hm:0 ≤ m) (p:Rd):0 ≤ (p.many m).1 ∧ (p.many m).1 ≤ m:=by
 unfold Rd.many
 split
 ·exact ⟨Int.le_refl _,hm⟩
 ·omega
theorem reps_size {α:Type} (f:Rd → α × Rd) (hf:∀ q,(f q).2.s.size ≤ q.s.size):∀ (m:Nat) (p:Rd),(reps f m p).2.s.size ≤ p.s.size
 | 0,p => Nat.le_refl _
 | m + 1,p => by
  simp only [reps]
  exact Nat.le_trans (reps_size f hf m _) (hf p)
theorem Rd.ex_size:∀ (k:Nat) (p:Rd),(Rd.ex k p).2.s.size ≤ p.s.size
 | 0,p => by show (p.fail 3).s.size ≤ _; rw [Rd.fail_s]; exact Nat.le_refl _
 | k + 1,p => by
  simp only [Rd.ex]
  refine Nat.le_trans (reps_size _ (Rd.ex_size k) _ _) ?_
  exact Nat.le_trans (Rd.many_size _ _) (Nat.le_trans (Rd.num_size _) (Rd.small_size _))
theorem reps_snoc {α:Type} (f:Rd → α × Rd):∀ (j:Nat) (p:Rd),reps f (j + 1) p = ((reps f j p).1 ++ [(f (reps f j p).2).1],(f (reps f j p).2).2)
 | 0,p => rfl
 | j + 1,p => by
  have ih:=reps_snoc f j (f p).2
  rw [reps,ih]
  simp only [reps,List.cons_append]
theorem reps_len {α:Type} (f:Rd → α × Rd):∀ (j:Nat) (p:Rd),(reps f j p).1.length = j
 | 0,p => rfl
 | j + 1,p => by simp only [reps,List.length_cons]; rw [reps_len f j]
theorem TX.step {w wx wy:World} {be bs bf bn bm bl bt bx:Nat} {q q':Rd} {o n:Int} {av:Value} (h:TX w wx be bs bf bn bm bl bt bx q o n av) (hf:Fr (FrS be bs) wx wy) (hp:PS wy be bs q'):TX w wy be bs bf bn bm bl bt bx q' o n av :=
 have h1:=h.el
 have h2:=h.sl
 have h3:=h.lt
 ⟨h.fr.trans hf,hp,h.ct.fr hf,h.r.fr hf (by rintro (q | q) <;> omega),h.x.fr hf (by rintro (q | q) <;> omega),h.lt,h.el,h.sl⟩
structure ERow (B0:Nat) (wx:World) (l:List Ex) (av:Value) (cs:List Value) (svs:Nat → Value):Prop where
 own:wx.ownsRow B0 179 3 av l.length cs
 cells:∀ i (hi:i < l.length),cs[i * 3]? = some (.int .u8 (l[i]'hi).op) ∧ cs[i * 3 + 1]? = some (.int .i64 (l[i]'hi).n) ∧ cs[i * 3 + 2]? = some (svs i)
 sub:∀ i (hi:i < l.length),ArgsP wx (fun b => B0 ≤ b ∧ b < wx.heap.size ∧ some b ≠ av.ownBlock) (l[i]'hi).args (svs i)
theorem ERow.args {B0:Nat} {wx:World} {l:List Ex} {av:Value} {cs:List Value} {svs:Nat → Value} (h:ERow B0 wx l av cs svs):ArgsP wx (fun b => B0 ≤ b ∧ b < wx.heap.size) l av:=by
 obtain ⟨⟨h1,h2⟩,hc,hs⟩:=h
 rcases h2 with ⟨rfl,h0⟩ | ⟨g,cap,cur,rfl,hb,hg,hn,hcp,hsz,ht⟩
 ·obtain rfl:l = []:=List.length_eq_zero_iff.1 h0
  exact .nil _ _ (Nat.zero_le _)
 ·by_cases h0:l.length = 0
  ·obtain rfl:l = []:=List.length_eq_zero_iff.1 h0
   exact .nil _ _ hcp
  ·have hlt:g < wx.heap.size:=(Array.getElem?_eq_some_iff.1 hg).1
   have cell:∀ q,q < l.length * 3 → wx.cell? ⟨g,0 + q,none⟩ = cs[q]? := fun q hq => by
    rw [Nat.zero_add,cell_of_row wx g q cur 179 (0,0) hg, ← ht,List.getElem?_take,if_pos hq]
    simp
   exact .cons l g 0 cap svs (by omega) ⟨hb,hlt⟩ hn hcp (fun i hi => (cell (i * 3) (by omega)).trans (hc i hi).1) (fun i hi => (cell (i * 3 + 1) (by omega)).trans (hc i hi).2.1)
    (fun i hi => (cell (i * 3 + 2) (by omega)).trans (hc i hi).2.2) (fun i hi => (hs i hi).mono fun b hb => ⟨hb.1,hb.2.1⟩)
theorem ERow.fr {B0 be bs:Nat} {wx wy:World} {l:List Ex} {av:Value} {cs:List Value} {svs:Nat → Value} (h:ERow B0 wx l av cs svs) (hf:Fr (FrS be bs) wx wy) (h1:be < B0) (h2:bs < B0):ERow B0 wy l av cs svs:=by
 refine ⟨?_,h.cells,fun i hi => (h.sub i hi).keep (fun b hb => ⟨hb.1,Nat.lt_of_lt_of_le hb.2.1 hf.size,hb.2.2⟩) (fun b hb => hf.block b hb.2.1 (by rintro (q | q) <;> omega))⟩
 obtain ⟨q1,q2⟩:=h.own
 refine ⟨q1,q2.imp id ?_⟩
 rintro ⟨g,cap,cur,hv,hb,hg,r⟩
 exact ⟨g,cap,cur,hv,hb,hf.heap_at hg (by rintro (q | q) <;> omega),r⟩
theorem ERow.snoc {B0:Nat} {wx w4 w5:World} {l:List Ex} {av:Value} {cs:List Value} {svs:Nat → Value} {g capg:Nat} {y:Ex} {sv:Value} {o:Obj} (h:ERow B0 w4 l av cs svs) (hx:∀ q,av.ownBlock = some q → q < wx.heap.size) (hxs:wx.heap.size ≤ w4.heap.size) (hB:B0 ≤ wx.heap.size)
  (hy:ArgsP w4 (fun b => wx.heap.size ≤ b ∧ b < w4.heap.size) y.args sv) (hg:(w4.alloc o).grownBy w5 av.ownBlock) (hat:av.ownBlock = some g ∨ g = (w4.alloc o).heap.size) (hlt:g < w5.heap.size)
  (hown:w5.ownsRow B0 179 3 (.slice (some ⟨g,0,none⟩) (l.length + 1) capg) (l.length + 1) (cs ++ [.int .u8 y.op, .int .i64 y.n,sv])) :
  ERow B0 w5 (l ++ [y]) (.slice (some ⟨g,0,none⟩) (l.length + 1) capg) (cs ++ [.int .u8 y.op, .int .i64 y.n,sv]) (fun i => if i = l.length then sv else svs i):=by
 have hl:(l ++ [y]).length = l.length + 1:=by simp
 have hcl:cs.length = l.length * 3:=h.own.1
 have hsz:(w4.alloc o).heap.size = w4.heap.size + 1:=by simp
 have hgs:=hg.size
 have keepB:∀ b,b < w4.heap.size → some b ≠ av.ownBlock → w5.heap[b]? = w4.heap[b]? := fun b hb hn => (hg.block b (by omega) hn).trans (alloc_old w4 o b hb)
 refine ⟨by rw [hl]; exact hown,fun i hi => ?_,fun i hi => ?_⟩
 ·by_cases hil:i < l.length
  ·obtain ⟨c0,c1,c2⟩:=h.cells i hil
   rw [List.getElem_append_left hil,if_neg (by omega),List.getElem?_append_left (by omega),List.getElem?_append_left (by omega),List.getElem?_append_left (by omega)]
   exact ⟨c0,c1,c2⟩
  ·obtain rfl:i = l.length:=by omega
   rw [List.getElem_append_right (Nat.le_refl _),if_pos rfl,List.getElem?_append_right (by omega),List.getElem?_append_right (by omega),List.getElem?_append_right (by omega),hcl]
   refine ⟨?_, ?_, ?_⟩
   ·simp
   ·rw [show l.length * 3 + 1 - l.length * 3 = 1 by omega]; simp
   ·rw [show l.length * 3 + 2 - l.length * 3 = 2 by omega]; simp
 ·by_cases hil:i < l.length
  ·rw [List.getElem_append_left hil,if_neg (by omega)]
   refine (h.sub i hil).keep (fun b hb => ⟨hb.1,by have:=hb.2.1; omega, ?_⟩) (fun b hb => keepB b hb.2.1 hb.2.2)
   simp only [Value.ownBlock,ne_eq,Option.some.injEq]
   intro e
   rcases hat with h1 | h1
   ·exact hb.2.2 (by rw [h1,e])
   ·have:=hb.2.1; omega
  ·obtain rfl:i = l.length:=by omega
   rw [List.getElem_append_right (Nat.le_refl _),if_pos rfl]
   simp only [Nat.sub_self,List.getElem_cons_zero]
   refine hy.keep (fun b hb => ⟨by have:=hb.1; omega,by have:=hb.2; omega, ?_⟩) (fun b hb => keepB b hb.2 (fun e => by have:=hx b e.symm; have:=hb.1; omega))
   simp only [Value.ownBlock,ne_eq,Option.some.injEq]
   intro e
   rcases hat with h1 | h1
   ·have:=hx g h1; have:=hb.1; omega
   ·have:=hb.2; omega
structure CtLt (B be bs bf bn bm bl bt:Nat):Prop where
 f:bf < B
 n:bn < B
 m:bm < B
 l:bl < B
 t:bt < B
theorem CtLt.of {w:World} {be bs bf bn bm bl bt:Nat} (h:Ct w be bs bf bn bm bl bt):CtLt w.heap.size be bs bf bn bm bl bt:=⟨h.cl.F.lt,h.cl.N.lt,h.M.lt,h.L.lt,h.T.lt⟩
theorem Blk.same {w w':World} {b:Nat} {t:TypeId} {cs:Array Value} (h:Blk w b t cs) (hk:w'.heap[b]? = w.heap[b]?):Blk w' b t cs:=hk.trans h
theorem Bx.same {w w':World} {b:Nat} {v:Value} (h:Bx w b v) (hk:w'.heap[b]? = w.heap[b]?):Bx w' b v:=let ⟨t,h⟩:=h; ⟨t,h.same hk⟩
theorem TX.keepB {w wx wy:World} {be bs bf bn bm bl bt bx B:Nat} {q:Rd} {o n:Int} {av:Value} (h:TX w wx be bs bf bn bm bl bt bx q o n av) (hx:bx < B) (hc:CtLt B be bs bf bn bm bl bt)
  (ho:wy.os = wx.os) (ht:wy.tape = wx.tape) (hu:wy.output = wx.output) (hs:wx.heap.size ≤ wy.heap.size) (hk:∀ b,b < B → wy.heap[b]? = wx.heap[b]?):TX w wy be bs bf bn bm bl bt bx q o n av :=
 have h1:=h.el
 have h2:=h.sl
 have h3:=h.lt
 ⟨⟨ho.trans h.fr.os,ht.trans h.fr.tape,hu.trans h.fr.output,Nat.le_trans h.fr.size hs,fun b hb hn => (hk b (by omega)).trans (h.fr.block b hb hn)⟩,
  ⟨h.ps.E.same (hk _ (by omega)),h.ps.S.same (hk _ (by omega))⟩,
  ⟨⟨h.ct.cl.F.same (hk _ hc.f),h.ct.cl.N.same (hk _ hc.n),h.ct.cl.ne,h.ct.cl.f1,h.ct.cl.f2,h.ct.cl.n1,h.ct.cl.n2⟩,h.ct.M.same (hk _ hc.m),h.ct.L.same (hk _ hc.l),h.ct.T.same (hk _ hc.t),h.ct.m1,h.ct.l1,h.ct.t1⟩,
  h.r.same (hk _ (by omega)),h.x.same (hk _ hx),h3,h1,h2⟩
theorem TX.drew {w wx:World} {be bs bf bn bm bl bt bx:Nat} {q:Rd} {o n:Int} {av:Value} (h:TX w wx be bs bf bn bm bl bt bx q o n av):TX w wx.drew be bs bf bn bm bl bt bx q o n av :=
 ⟨⟨h.fr.os,h.fr.tape,h.fr.output,h.fr.size,h.fr.block⟩,h.ps.drew,h.ct.drew,h.r,h.x,h.lt,h.el,h.sl⟩
theorem TX.setX {w wx:World} {be bs bf bn bm bl bt bx:Nat} {q:Rd} {o n:Int} {av:Value} (h:TX w wx be bs bf bn bm bl bt bx q o n av) (hf:CtFar bx be bs bf bn bm bl bt) (u:Value) :
  TX w (wx.setCell ⟨bx,2,none⟩ u) be bs bf bn bm bl bt bx q o n u :=
 have h1:=h.el
 have h2:=h.sl
 have h3:=h.lt
 ⟨h.fr.setCell (p:=⟨bx,2,none⟩) (.inr (Nat.le_of_lt h3)) u,⟨h.ps.E.other (p:=⟨bx,2,none⟩) (Nat.ne_of_lt (Nat.lt_trans h1 h3)) u,h.ps.S.other (p:=⟨bx,2,none⟩) (Nat.ne_of_lt (Nat.lt_trans h2 h3)) u⟩,
  h.ct.far (p:=⟨bx,2,none⟩) hf u,h.r.other (p:=⟨bx,2,none⟩) (Nat.ne_of_lt h3) u,h.x.set 2 u,h3,h1,h2⟩
theorem ERow.keepB {B0:Nat} {wx wy:World} {l:List Ex} {av:Value} {cs:List Value} {svs:Nat → Value} (h:ERow B0 wx l av cs svs) (hs:wx.heap.size ≤ wy.heap.size) (hk:∀ b,B0 ≤ b → b < wx.heap.size → wy.heap[b]? = wx.heap[b]?):ERow B0 wy l av cs svs:=by
 refine ⟨?_,h.cells,fun i hi => (h.sub i hi).keep (fun b hb => ⟨hb.1,Nat.lt_of_lt_of_le hb.2.1 hs,hb.2.2⟩) (fun b hb => hk b hb.1 hb.2.1)⟩
 obtain ⟨q1,q2⟩:=h.own
 refine ⟨q1,q2.imp id ?_⟩
 rintro ⟨g,cap,cur,hv,hb,hg,r⟩
 exact ⟨g,cap,cur,hv,hb,(hk g hb (Array.getElem?_eq_some_iff.1 hg).1).trans hg,r⟩
theorem ERow.drew {B0:Nat} {wx:World} {l:List Ex} {av:Value} {cs:List Value} {svs:Nat → Value} (h:ERow B0 wx l av cs svs):ERow B0 wx.drew l av cs svs:=h.keepB (Nat.le_refl _) fun _ _ _ => rfl
theorem ERow.own_ge {B0:Nat} {wx:World} {l:List Ex} {av:Value} {cs:List Value} {svs:Nat → Value} (h:ERow B0 wx l av cs svs):∀ q,av.ownBlock = some q → B0 ≤ q ∧ q < wx.heap.size:=by
 intro q hq
 rcases h.own.2 with ⟨rfl,_⟩ | ⟨g,cap,cur,rfl,hb,hg,_⟩
 ·cases hq
 ·simp only [Value.ownBlock,Option.some.injEq] at hq
  subst hq
  exact ⟨hb,(Array.getElem?_eq_some_iff.1 hg).1⟩
theorem ERow.nil (B0:Nat) (w:World) (svs:Nat → Value):ERow B0 w [] (.slice none 0 0) [] svs:=⟨⟨by simp, .inl ⟨rfl,rfl⟩⟩,fun i hi => absurd hi (Nat.not_lt_zero _),fun i hi => absurd hi (Nat.not_lt_zero _)⟩
theorem info_exC:(Tryz.prog.info? 179).map (fun i => (i.zero,i.size,i.bytes)) = some (some (.agg #[.int .u8 0, .int .i64 0, .slice none 0 0]),3,40):=by kernel_rfl
set_option maxRecDepth 100000 in
set_option maxHeartbeats 8000000 in
theorem takeEx_step (k:Nat) (hk:k ≤ 100) (IH:Hid (TakeC k)):TakeC (k + 1):=by
 intro be bs bf bn bm bl bt p w hs h hc
 have hel:=h.E.lt
 have hsl:=h.S.lt
 have hne:=hc.cl.ne
 have HE:Hid (Rd.ex (k + 1) p = (.mk p.small.1 p.small.2.num.1 (reps (Rd.ex k) (p.small.2.num.2.many 3).1.toNat (p.small.2.num.2.many 3).2).1,(reps (Rd.ex k) (p.small.2.num.2.many 3).1.toNat (p.small.2.num.2.many 3).2).2)):=rfl
 have hs1:=Nat.le_trans p.small_size hs
 have HSM:=Lib.hid (fun W h1 h2 => small_cP be bs bf bn p hs W h1 h2)
 generalize hq1:p.small = q1 at *
 have HNU:=Lib.hid (fun W h1 h2 => pnumber_c be bs bf hne q1.2 hs1 W h1 h2)
 have hs2:=Nat.le_trans q1.2.num_size hs1
 generalize hq2:q1.2.num = q2 at *
 have HMN:=Lib.hid (fun W h1 h2 => many_cP be bs bf bn 3 q2.2 hs2 W h1 h2)
 have hs3:=Nat.le_trans (q2.2.many_size 3) hs2
 have hml:=q2.2.many_le 3 (by omega)
 generalize hq3:q2.2.many 3 = q3 at *
 clear hq1 hq2 hq3
 obtain ⟨o,p1⟩:=q1
 obtain ⟨n,p2⟩:=q2
 obtain ⟨m,p3⟩:=q3
 dsimp only at HE HSM HNU HMN hs1 hs2 hs3 hml
 obtain ⟨mm,rfl⟩:∃ mm:Nat,m = (mm:Int):=⟨m.toNat,by omega⟩
 rw [Int.toNat_natCast] at HE
 unfold TakePost
 generalize Rd.ex (k + 1) p = R at *
 have h1:=h.alloc (.cells #[.int .u8 0, .int .i64 0, .slice none 0 0] 179)
 have hc1:=hc.alloc (.cells #[.int .u8 0, .int .i64 0, .slice none 0 0] 179)
 have hF1:Fr (FrS be bs) w (w.alloc (.cells #[.int .u8 0, .int .i64 0, .slice none 0 0] 179)):=(Fr.refl _ w).alloc _
 have hr1:=Blk.new w #[.int .u8 0, .int .i64 0, .slice none 0 0] 179
 have hz1:((k:Int) + 1 == 0) = false:=by rw [beq_eq_false_iff_ne]; omega
 have hkc:((k + 1:Nat):Int) = (k:Int) + 1:=by omega
 rw [hkc]
 clear h hc
 have hrn : ¬ FrS be bs w.heap.size:=by rintro (q | q) <;> omega
 go_enter Tryz.func154,Tryz.ntmps154
 go_upto_region 1 with fail
 have hWs:w.heap.size < (w.alloc (.cells #[.int .u8 0, .int .i64 0, .slice none 0 0] 179)).heap.size:=hr1.lt
 generalize w.alloc (.cells #[.int .u8 0, .int .i64 0, .slice none 0 0] 179) = W at *
 go_upto_region 4 with fail
 go_cut [8] (fun p8 wx => ∃ bx,p8 = .pointer (some ⟨bx,0,none⟩) ∧ TX w wx be bs bf bn bm bl bt bx p2 o n (.slice none 0 0) ∧ CtFar bx be bs bf bn bm bl bt)
 case first =>
  refine wp_region_held_drew (S:=(fun w' => Ct w' be bs bf bn bm bl bt)) (by kernel_rfl) ?_ (fun hHeld => ?_)
  ·exact hc1.drew
  refine wpAnyH_take (i:=0) (oi:=_) (v := ?_) rfl (by kernel_rfl) (by kernel_rfl) (by kernel_rfl) (fun _ _ _ h => h) (Or.inl ⟨by rfl, ?_⟩) (by assumption) ?_
  rotate_left
  ·intro w' hSw
   (try dsimp only at hSw)
   have l0:=hSw.L.cell
   unfold smallV at l0
   have n0:=hSw.cl.N.cell
   unfold numberV at n0
   clear hSw
   go_simp
   try with_reducible rfl
  try simp only [Act.put,List.getElem_toArray,List.getElem_cons_zero,List.setIfInBounds_toArray,List.set_cons_zero,List.set_cons_succ]
  refine wpAnyH_take (i:=2) (oi:=_) (v := ?_) rfl (by kernel_rfl) (by kernel_rfl) (by kernel_rfl) (fun _ _ _ h => h) (Or.inl ⟨by rfl, ?_⟩) (by assumption) ?_
  rotate_left
  ·intro w' hSw
   (try dsimp only at hSw)
   have l0:=hSw.L.cell
   unfold smallV at l0
   have n0:=hSw.cl.N.cell
   unfold numberV at n0
   clear hSw
   go_simp
   try with_reducible rfl
  try simp only [Act.put,List.getElem_toArray,List.getElem_cons_zero,List.getElem_cons_succ,List.setIfInBounds_toArray,List.set_cons_zero,List.set_cons_succ]
  refine wpAnyH_ready (rs:=[1,5]) (by kernel_rfl) (by simp) ?_
  refine AllReadyH.cons rfl (fun K hK => ?_) (AllReadyH.cons rfl (fun K hK => ?_) (AllReadyH.nil))
  ·go_simp
   go_at_call 152
   refine (HSM.out _ (h1.drew) (hc1.drew).cl).mono ?_
   rintro e w1 ⟨rfl,h2,f2⟩
   have ct2:=Ct.fr (hc1.drew) f2
   refine hK.out _ _ ?_ (fun hHeld => ?_)
   ·exact ct2
   clear hK K
   try simp only [Act.put,List.getElem_toArray,List.getElem_cons_zero,List.getElem_cons_succ,List.setIfInBounds_toArray,List.set_cons_zero,List.set_cons_succ]
   refine wpAnyH_ready (rs:=[3,5]) (by kernel_rfl) (by simp) ?_
   refine AllReadyH.cons rfl (fun K hK => ?_) (AllReadyH.cons rfl (fun K hK => ?_) (AllReadyH.nil))
   ·go_simp
    go_at_call 150
    refine (HNU.out _ (h2) (ct2).cl.F).mono ?_
    rintro e w2 ⟨rfl,h3,f3⟩
    have ct3:=Ct.fr (ct2) f3
    refine hK.out _ _ ?_ (fun hHeld => ?_)
    ·exact ct3
    clear hK K
    try simp only [Act.put,List.getElem_toArray,List.getElem_cons_zero,List.getElem_cons_succ,List.setIfInBounds_toArray,List.set_cons_zero,List.set_cons_succ]
    refine wpAnyH_take (i:=4) (oi:=_) (v := ?_) rfl (by kernel_rfl) (by kernel_rfl) (by kernel_rfl) (fun _ _ _ h => h) (Or.inl ⟨by rfl, ?_⟩) (by assumption) ?_
    rotate_left
    ·intro w' hSw
     (try dsimp only at hSw)
     have l0:=hSw.L.cell
     unfold smallV at l0
     have n0:=hSw.cl.N.cell
     unfold numberV at n0
     clear hSw
     go_simp
     try with_reducible rfl
    try simp only [Act.put,List.getElem_toArray,List.getElem_cons_zero,List.getElem_cons_succ,List.setIfInBounds_toArray,List.set_cons_zero,List.set_cons_succ]
    refine wpAnyH_ready (rs:=[5]) (by kernel_rfl) (by simp) ?_
    refine AllReadyH.cons rfl (fun K hK => ?_) AllReadyH.nil
    go_simp
    refine hK.out _ _ ?_ (fun hHeld => ?_)
    ·exact ct3.alloc _
    clear hK K
    try simp only [Act.put,List.getElem_toArray,List.getElem_cons_zero,List.getElem_cons_succ,List.setIfInBounds_toArray,List.set_cons_zero,List.set_cons_succ]
    refine wpAnyH_ready (rs:=[6]) (by kernel_rfl) (by simp) ?_
    refine AllReadyH.cons rfl (fun K hK => ?_) AllReadyH.nil
    go_simp
    refine hK.out _ _ ?_ (fun hHeld => ?_)
    ·exact ct3.alloc _
    clear hK K
    try simp only [Act.put,List.getElem_toArray,List.getElem_cons_zero,List.getElem_cons_succ,List.setIfInBounds_toArray,List.set_cons_zero,List.set_cons_succ]
    refine wpAnyH_done (by kernel_rfl) ?_ _
    go_wp2_with fail
    go_meet
    have fr3:=(hF1.drew.trans f2).trans f3
    exact ⟨w2.heap.size,rfl,⟨fr3.alloc _,h3.alloc _,ct3.alloc _,((hr1.drew.fr f2 hrn).fr f3 hrn).alloc _,Blk.new _ _ _,Nat.lt_of_lt_of_le hWs (Nat.le_trans f2.size f3.size),hel,hsl⟩,CtFar.of ct3⟩
   ·go_simp
    have h2a:=h2.alloc (.cells #[.int .u8 0, .int .i64 0, .slice none 0 0] 179)
    have ct2a:=ct2.alloc (.cells #[.int .u8 0, .int .i64 0, .slice none 0 0] 179)
    have hb0:=Blk.new w1 #[.int .u8 0, .int .i64 0, .slice none 0 0] 179
    have fa:Fr (FrS be bs) w (w1.alloc (.cells #[.int .u8 0, .int .i64 0, .slice none 0 0] 179)):=(hF1.drew.trans f2).alloc _
    have hra:=(hr1.drew.fr f2 hrn).alloc (.cells #[.int .u8 0, .int .i64 0, .slice none 0 0] 179)
    refine hK.out _ _ ?_ (fun hHeld => ?_)
    ·exact ct2.alloc _
    clear hK K
    try simp only [Act.put,List.getElem_toArray,List.getElem_cons_zero,List.getElem_cons_succ,List.setIfInBounds_toArray,List.set_cons_zero,List.set_cons_succ]
    refine wpAnyH_ready (rs:=[3]) (by kernel_rfl) (by simp) ?_
    refine AllReadyH.cons rfl (fun K hK => ?_) AllReadyH.nil
    go_simp
    go_at_call 150
    refine (HNU.out _ (h2a) (ct2a).cl.F).mono ?_
    rintro e w2 ⟨rfl,h3,f3⟩
    have ct3:=Ct.fr (ct2a) f3
    have hlb:w.heap.size < w1.heap.size:=Nat.lt_of_lt_of_le hWs f2.size
    have hbn : ¬ FrS be bs w1.heap.size:=by rintro (q | q) <;> omega
    have hbx:=hb0.fr f3 hbn
    have frx:=fa.trans f3
    have hrx:=hra.fr f3 hrn
    have z0:=(hbx).free 0
    have z1:=(hbx).free 1
    have z2:=(hbx).free 2
    have x0:=(hbx).cell 0
    have x1:=(hbx).cell 1
    have x2:=(hbx).cell 2
    refine hK.out _ _ ?_ (fun hHeld => ?_)
    ·exact ct3
    clear hK K
    try simp only [Act.put,List.getElem_toArray,List.getElem_cons_zero,List.getElem_cons_succ,List.setIfInBounds_toArray,List.set_cons_zero,List.set_cons_succ]
    refine wpAnyH_take (i:=4) (oi:=_) (v := ?_) rfl (by kernel_rfl) (by kernel_rfl) (by kernel_rfl) (fun _ _ _ h => h) (Or.inl ⟨by rfl, ?_⟩) (by assumption) ?_
    rotate_left
    ·intro w' hSw
     (try dsimp only at hSw)
     have l0:=hSw.L.cell
     unfold smallV at l0
     have n0:=hSw.cl.N.cell
     unfold numberV at n0
     clear hSw
     go_simp
     try with_reducible rfl
    try simp only [Act.put,List.getElem_toArray,List.getElem_cons_zero,List.getElem_cons_succ,List.setIfInBounds_toArray,List.set_cons_zero,List.set_cons_succ]
    have hbe:be ≠ w1.heap.size:=by omega
    have hbs:bs ≠ w1.heap.size:=by omega
    have hwb:w.heap.size ≤ w1.heap.size:=by omega
    have hfar:CtFar w1.heap.size be bs bf bn bm bl bt:=CtFar.of ct2
    refine wpAnyH_ready (rs:=[6]) (by kernel_rfl) (by simp) ?_
    refine AllReadyH.cons rfl (fun K hK => ?_) AllReadyH.nil
    go_simp
    refine hK.out _ _ ?_ (fun hHeld => ?_)
    ·exact Ct.far3 ct3 hfar _ _ _
    clear hK K
    try simp only [Act.put,List.getElem_toArray,List.getElem_cons_zero,List.getElem_cons_succ,List.setIfInBounds_toArray,List.set_cons_zero,List.set_cons_succ]
    refine wpAnyH_done (by kernel_rfl) ?_ _
    go_wp2_with fail
    go_meet
    exact ⟨w1.heap.size,rfl,⟨((frx.setCell (p:=⟨w1.heap.size,0,none⟩) (.inr hwb) _).setCell (p:=⟨w1.heap.size,1,none⟩) (.inr hwb) _).setCell (p:=⟨w1.heap.size,2,none⟩) (.inr hwb) _,PS.far3 h3 hbe hbs _ _ _,Ct.far3 ct3 hfar _ _ _,Blk.far3 hrx (Nat.ne_of_lt hlb) _ _ _,ex_set hbx rfl _ _ _,hlb,hel,hsl⟩,hfar⟩
  ·go_simp
   have h1a:=(h1.alloc (.cells #[.int .u8 0, .int .i64 0, .slice none 0 0] 179)).drew
   have ct1a:=(hc1.alloc (.cells #[.int .u8 0, .int .i64 0, .slice none 0 0] 179)).drew
   have hb0:=(Blk.new W #[.int .u8 0, .int .i64 0, .slice none 0 0] 179).drew
   have fa:Fr (FrS be bs) w ((W.alloc (.cells #[.int .u8 0, .int .i64 0, .slice none 0 0] 179)).drew):=(hF1.alloc _).drew
   have hra:=(hr1.alloc (.cells #[.int .u8 0, .int .i64 0, .slice none 0 0] 179)).drew
   refine hK.out _ _ ?_ (fun hHeld => ?_)
   ·exact (hc1.alloc _).drew
   clear hK K
   try simp only [Act.put,List.getElem_toArray,List.getElem_cons_zero,List.getElem_cons_succ,List.setIfInBounds_toArray,List.set_cons_zero,List.set_cons_succ]
   refine wpAnyH_ready (rs:=[1]) (by kernel_rfl) (by simp) ?_
   refine AllReadyH.cons rfl (fun K hK => ?_) AllReadyH.nil
   go_simp
   go_at_call 152
   refine (HSM.out _ (h1a) (ct1a).cl).mono ?_
   rintro e w1 ⟨rfl,h2,f2⟩
   have ct2:=Ct.fr (ct1a) f2
   have hlb:w.heap.size < W.heap.size:=hWs
   have hbn : ¬ FrS be bs W.heap.size:=by rintro (q | q) <;> omega
   have hbx1:=hb0.fr f2 hbn
   have hra2:=hra.fr f2 hrn
   refine hK.out _ _ ?_ (fun hHeld => ?_)
   ·exact ct2
   clear hK K
   try simp only [Act.put,List.getElem_toArray,List.getElem_cons_zero,List.getElem_cons_succ,List.setIfInBounds_toArray,List.set_cons_zero,List.set_cons_succ]
   refine wpAnyH_ready (rs:=[3]) (by kernel_rfl) (by simp) ?_
   refine AllReadyH.cons rfl (fun K hK => ?_) AllReadyH.nil
   go_simp
   go_at_call 150
   refine (HNU.out _ (h2) (ct2).cl.F).mono ?_
   rintro e w2 ⟨rfl,h3,f3⟩
   have ct3:=Ct.fr (ct2) f3
   have hbx:=hbx1.fr f3 hbn
   have frx:=(fa.trans f2).trans f3
   have hrx:=hra2.fr f3 hrn
   have z0:=(hbx).free 0
   have z1:=(hbx).free 1
   have z2:=(hbx).free 2
   have x0:=(hbx).cell 0
   have x1:=(hbx).cell 1
   have x2:=(hbx).cell 2
   refine hK.out _ _ ?_ (fun hHeld => ?_)
   ·exact ct3
   clear hK K
   try simp only [Act.put,List.getElem_toArray,List.getElem_cons_zero,List.getElem_cons_succ,List.setIfInBounds_toArray,List.set_cons_zero,List.set_cons_succ]
   refine wpAnyH_take (i:=4) (oi:=_) (v := ?_) rfl (by kernel_rfl) (by kernel_rfl) (by kernel_rfl) (fun _ _ _ h => h) (Or.inl ⟨by rfl, ?_⟩) (by assumption) ?_
   rotate_left
   ·intro w' hSw
    (try dsimp only at hSw)
    have l0:=hSw.L.cell
    unfold smallV at l0
    have n0:=hSw.cl.N.cell
    unfold numberV at n0
    clear hSw
    go_simp
    try with_reducible rfl
   try simp only [Act.put,List.getElem_toArray,List.getElem_cons_zero,List.getElem_cons_succ,List.setIfInBounds_toArray,List.set_cons_zero,List.set_cons_succ]
   have hbe:be ≠ W.heap.size:=by omega
   have hbs:bs ≠ W.heap.size:=by omega
   have hwb:w.heap.size ≤ W.heap.size:=by omega
   have hfar:CtFar W.heap.size be bs bf bn bm bl bt:=CtFar.of hc1
   refine wpAnyH_ready (rs:=[6]) (by kernel_rfl) (by simp) ?_
   refine AllReadyH.cons rfl (fun K hK => ?_) AllReadyH.nil
   go_simp
   refine hK.out _ _ ?_ (fun hHeld => ?_)
   ·exact Ct.far3 ct3 hfar _ _ _
   clear hK K
   try simp only [Act.put,List.getElem_toArray,List.getElem_cons_zero,List.getElem_cons_succ,List.setIfInBounds_toArray,List.set_cons_zero,List.set_cons_succ]
   refine wpAnyH_done (by kernel_rfl) ?_ _
   go_wp2_with fail
   go_meet
   exact ⟨W.heap.size,rfl,⟨((frx.setCell (p:=⟨W.heap.size,0,none⟩) (.inr hwb) _).setCell (p:=⟨W.heap.size,1,none⟩) (.inr hwb) _).setCell (p:=⟨W.heap.size,2,none⟩) (.inr hwb) _,PS.far3 h3 hbe hbs _ _ _,Ct.far3 ct3 hfar _ _ _,Blk.far3 hrx (Nat.ne_of_lt hlb) _ _ _,ex_set hbx rfl _ _ _,hlb,hel,hsl⟩,hfar⟩
 case rest =>
  obtain ⟨bx,rfl,hT,hfar⟩:=hcut
  have b0:=hT.ct.M.cell
  unfold manyV at b0
  go_wp2_with fail
  refine (HMN.out _ hT.ps hT.ct.cl).mono ?_
  rintro e w5 ⟨rfl,h5,f5⟩
  replace hT:=hT.step f5 h5
  clear b0
  go_wp2_with fail
  have hxB:=hT.x.lt
  have hCB:=CtLt.of hT.ct
  have hbeB:=h5.E.lt
  have hbsB:=h5.S.lt
  have hE:=ERow.nil w5.heap.size w5 (fun _ => undef)
  have ii:=info_exC
  obtain ⟨i0,hi,iz⟩:=Option.map_eq_some_iff.1 ii
  simp only [Prod.mk.injEq] at iz
  obtain ⟨iz0,iz1,iz2⟩:=iz
  have hwB:=Nat.le_of_lt (Nat.lt_trans hT.lt hT.x.lt)
  have hwB1:w.heap.size < w5.heap.size:=Nat.lt_trans hT.lt hT.x.lt
  clear ii HSM HNU HMN hF1 h1 hc1 hr1 f5 h5
  generalize hB0:w5.heap.size = B0 at *
  have hB5:B0 ≤ w5.heap.size:=Nat.le_of_eq hB0.symm
  clear hB0
  go_loopw [21] (fun q wr => ∃ (j:Nat) (av:Value) (cs:List Value) (svs:Nat → Value),q = .int .i64 j ∧ j ≤ mm ∧ TX w wr be bs bf bn bm bl bt bx (reps (Rd.ex k) j p3).2 o n av ∧ ERow B0 wr (reps (Rd.ex k) j p3).1 av cs svs ∧ B0 ≤ wr.heap.size) (fun q _ => mm - (intOf q).toNat)
  case atStart => exact ⟨0, .slice none 0 0,[],fun _ => undef,rfl,Nat.zero_le _,hT,hE,hB5⟩
  case round =>
   obtain ⟨j,av,cs,svs,rfl,hj,hTr,hEr,hBr⟩:=hrel
   have HSN:=Lib.hid (reps_snoc (Rd.ex k) j p3)
   have hsr:=Nat.le_trans (reps_size (Rd.ex k) (Rd.ex_size k) j p3) hs3
   have hrl:=reps_len (Rd.ex k) j p3
   by_cases hlt:j < mm
   ·have hltd:decide ((j:Int) < (mm:Int)) = true:=decide_eq_true (by omega)
    generalize reps (Rd.ex k) j p3 = r at *
    have hTd:=hTr.drew
    have hEd:=hEr.drew
    have hx0:=hTd.x.cell 2
    have hwk:IntKind.i64.wrap (k:Int) = (k:Int):=by simp [IntKind.wrap,IntKind.bits,IntKind.signed]; omega
    go_upto_region 7 with fail
    refine wp_region_held_drew (S:=(fun w' => Bx w' bt (takeV bf bl bn bm bt))) (by kernel_rfl) ?_ (fun hHeld => ?_)
    ·exact hTd.ct.T
    refine wpAnyH_take (i:=0) (oi:=_) (v := ?_) rfl (by kernel_rfl) (by kernel_rfl) (by kernel_rfl) (fun _ _ _ h => h) (Or.inl ⟨by rfl, ?_⟩) (by assumption) ?_
    rotate_left
    ·intro w' hSw
     (try dsimp only at hSw)
     have l0:=hSw.cell
     unfold takeV at l0
     clear hSw
     go_simp
     try with_reducible rfl
    try simp only [Act.put,List.getElem_toArray,List.getElem_cons_zero,List.setIfInBounds_toArray,List.set_cons_zero,List.set_cons_succ]
    refine wpAnyH_take (i:=2) (oi:=_) (v := ?_) rfl (by kernel_rfl) (by kernel_rfl) (by kernel_rfl) (fun _ _ _ h => h) (Or.inl ⟨by rfl, ?_⟩) (by assumption) ?_
    rotate_left
    ·intro w' hSw
     (try dsimp only at hSw)
     have l0:=hSw.cell
     unfold takeV at l0
     clear hSw
     go_simp
     try with_reducible rfl
    try simp only [Act.put,List.getElem_toArray,List.getElem_cons_zero,List.getElem_cons_succ,List.setIfInBounds_toArray,List.set_cons_zero,List.set_cons_succ]
    refine wpAnyH_take (i:=3) (oi:=_) (v := ?_) rfl (by kernel_rfl) (by kernel_rfl) (by kernel_rfl) (fun _ _ _ h => h) (Or.inl ⟨by rfl, ?_⟩) (by assumption) ?_
    rotate_left
    ·intro w' hSw
     (try dsimp only at hSw)
     have l0:=hSw.cell
     unfold takeV at l0
     clear hSw
     go_simp
     try with_reducible rfl
    try simp only [Act.put,List.getElem_toArray,List.getElem_cons_zero,List.getElem_cons_succ,List.setIfInBounds_toArray,List.set_cons_zero,List.set_cons_succ]
    refine wpAnyH_take (i:=4) (oi:=_) (v := ?_) rfl (by kernel_rfl) (by kernel_rfl) (by kernel_rfl) (fun _ _ _ h => h) (Or.inl ⟨by rfl, ?_⟩) (by assumption) ?_
    rotate_left
    ·intro w' hSw
     (try dsimp only at hSw)
     have l0:=hSw.cell
     unfold takeV at l0
     clear hSw
     go_simp
     (try rw [hwk])
     try with_reducible rfl
    try simp only [Act.put,List.getElem_toArray,List.getElem_cons_zero,List.getElem_cons_succ,List.setIfInBounds_toArray,List.set_cons_zero,List.set_cons_succ]
    refine wpAnyH_ready (rs:=[1,5]) (by kernel_rfl) (by simp) ?_
    refine AllReadyH.cons rfl (fun K hK => ?_) (AllReadyH.cons rfl (fun K hK => ?_) (AllReadyH.nil))
    ·go_simp
     refine hK.out _ _ ?_ (fun hHeld => ?_)
     ·exact hTd.ct.T
     clear hK K
     try simp only [Act.put,List.getElem_toArray,List.getElem_cons_zero,List.getElem_cons_succ,List.setIfInBounds_toArray,List.set_cons_zero,List.set_cons_succ]
     refine wpAnyH_ready (rs:=[5]) (by kernel_rfl) (by simp) ?_
     refine AllReadyH.cons rfl (fun K hK => ?_) AllReadyH.nil
     go_simp
     go_at_call 154
     refine (IH.out be bs bf bn bm bl bt r.2 wr.drew hsr hTd.ps hTd.ct).mono ?_
     rintro e w6 ⟨sv,rfl,hy,h6,f6⟩
     have hT6:=hTd.step f6 h6
     have hE6:=hEd.fr f6 hbeB hbsB
     obtain ⟨a2,n2,cap2,rfl⟩:=hy.slice
     generalize (Rd.ex k r.2).1 = y at *
     generalize (Rd.ex k r.2).2 = r2 at *
     have hB6:B0 ≤ w6.heap.size:=Nat.le_trans hBr f6.size
     have hx6:=hT6.x.cell 2
     refine hK.out _ _ ?_ (fun hHeld => ?_)
     ·exact hT6.ct.T
     clear hK K
     try simp only [Act.put,List.getElem_toArray,List.getElem_cons_zero,List.getElem_cons_succ,List.setIfInBounds_toArray,List.set_cons_zero,List.set_cons_succ]
     refine wpAnyH_ready (rs:=[6]) (by kernel_rfl) (by simp) ?_
     refine AllReadyH.cons rfl (fun K hK => ?_) AllReadyH.nil
     go_simp
     have hTa:=hT6.step ((Fr.refl (FrS be bs) w6).alloc (.cells #[.int .u8 y.op, .int .i64 y.n, .slice a2 n2 cap2] 179)) (hT6.ps.alloc _)
     have hEa:=hE6.fr ((Fr.refl (FrS be bs) w6).alloc (.cells #[.int .u8 y.op, .int .i64 y.n, .slice a2 n2 cap2] 179)) hbeB hbsB
     have hxa:=hTa.x.cell 2
     refine hK.out _ _ ?_ (fun hHeld => ?_)
     ·exact hTa.ct.T
     clear hK K
     try simp only [Act.put,List.getElem_toArray,List.getElem_cons_zero,List.getElem_cons_succ,List.setIfInBounds_toArray,List.set_cons_zero,List.set_cons_succ]
     refine wpAnyH_ready (rs:=[7]) (by kernel_rfl) (by simp) ?_
     refine AllReadyH.cons rfl (fun K hK => ?_) AllReadyH.nil
     have hszX:(w6.alloc (.cells #[.int .u8 y.op, .int .i64 y.n, .slice a2 n2 cap2] 179)).heap.size = w6.heap.size + 1:=by simp
     refine step_append_lies _ (by rfl) _ _ _ (by rfl) B0 179 i0 (.agg #[.int .u8 0, .int .i64 0, .slice none 0 0]) 3 40 Tryz.underlying177 hi iz0 iz1 iz2 rfl (by decide) av r.1.length cs (by rfl) hEa.own ⟨w6.heap.size,0,none⟩ 1 1 (#[.int .u8 y.op, .int .i64 y.n, .slice a2 n2 cap2]).toList (by rfl) (by rfl) (World.news_of_block (heap_alloc_new w6 _)) (by simp [Value.oneCell']) (by omega) (by unfold maxLen; omega) (by omega) (by omega) _ rfl ?_
     intro g capg w7 hown7 hgrow7 hat7 hlt7
     have hT7:=hTa.keepB hxB hCB hgrow7.os hgrow7.tape hgrow7.output hgrow7.size (fun b hb => hgrow7.block b (by omega) (fun e => by have:=(hE6.own_ge b e.symm).1; omega))
     have hE7:=hE6.snoc (fun q hq => (hEd.own_ge q hq).2) f6.size hBr hy hgrow7 hat7 hlt7 hown7
     rw [hrl] at hE7
     have hB7:B0 ≤ w7.heap.size:=by have:=hgrow7.size; omega
     have hx7:=hT7.x.cell 2
     have hz7:=hT7.x.free 2
     refine hK.out _ _ ?_ (fun hHeld => ?_)
     ·exact hT7.ct.T
     clear hK K
     try simp only [Act.put,List.getElem_toArray,List.getElem_cons_zero,List.getElem_cons_succ,List.setIfInBounds_toArray,List.set_cons_zero,List.set_cons_succ]
     refine wpAnyH_take (i:=8) (oi:=_) (v := ?_) rfl (by kernel_rfl) (by kernel_rfl) (by kernel_rfl) (fun _ _ _ h => h) (Or.inl ⟨by rfl, ?_⟩) (by assumption) ?_
     rotate_left
     ·intro w' hSw
      (try dsimp only at hSw)
      have l0:=hSw.cell
      unfold takeV at l0
      clear hSw
      go_simp
      try with_reducible rfl
     try simp only [Act.put,List.getElem_toArray,List.getElem_cons_zero,List.getElem_cons_succ,List.setIfInBounds_toArray,List.set_cons_zero,List.set_cons_succ]
     refine wpAnyH_ready (rs:=[9]) (by kernel_rfl) (by simp) ?_
     refine AllReadyH.cons rfl (fun K hK => ?_) AllReadyH.nil
     go_simp
     have hT8:=hT7.setX hfar (.slice (some ⟨g,0,none⟩) (j + 1) capg)
     have hE8:=hE7.keepB (wy:=w7.setCell ⟨bx,2,none⟩ (.slice (some ⟨g,0,none⟩) (j + 1) capg)) (by simp) (fun b hb _ => heap_setCell_other w7 ⟨bx,2,none⟩ b _ (by show b ≠ bx; omega))
     have hB8:B0 ≤ (w7.setCell ⟨bx,2,none⟩ (.slice (some ⟨g,0,none⟩) (j + 1) capg)).heap.size:=by simpa using hB7
     refine hK.out _ _ ?_ (fun hHeld => ?_)
     ·exact hT8.ct.T
     clear hK K
     try simp only [Act.put,List.getElem_toArray,List.getElem_cons_zero,List.getElem_cons_succ,List.setIfInBounds_toArray,List.set_cons_zero,List.set_cons_succ]
     refine wpAnyH_done (by kernel_rfl) ?_ _
     go_wp2_with fail
     go_roundw
     case measure => simp only [intOf]; omega
     case rel => exact ⟨j + 1,_,_,_,rfl,by omega,by rw [HSN.out]; exact hT8,by rw [HSN.out]; exact hE8,hB8⟩
    ·go_simp
     go_at_call 154
     refine (IH.out be bs bf bn bm bl bt r.2 wr.drew hsr hTd.ps hTd.ct).mono ?_
     rintro e w6 ⟨sv,rfl,hy,h6,f6⟩
     have hT6:=hTd.step f6 h6
     have hE6:=hEd.fr f6 hbeB hbsB
     obtain ⟨a2,n2,cap2,rfl⟩:=hy.slice
     generalize (Rd.ex k r.2).1 = y at *
     generalize (Rd.ex k r.2).2 = r2 at *
     have hB6:B0 ≤ w6.heap.size:=Nat.le_trans hBr f6.size
     have hx6:=hT6.x.cell 2
     refine hK.out _ _ ?_ (fun hHeld => ?_)
     ·exact hT6.ct.T
     clear hK K
     try simp only [Act.put,List.getElem_toArray,List.getElem_cons_zero,List.getElem_cons_succ,List.setIfInBounds_toArray,List.set_cons_zero,List.set_cons_succ]
     refine wpAnyH_ready (rs:=[1,6]) (by kernel_rfl) (by simp) ?_
     refine AllReadyH.cons rfl (fun K hK => ?_) (AllReadyH.cons rfl (fun K hK => ?_) (AllReadyH.nil))
     ·go_simp
      refine hK.out _ _ ?_ (fun hHeld => ?_)
      ·exact hT6.ct.T
      clear hK K
      try simp only [Act.put,List.getElem_toArray,List.getElem_cons_zero,List.getElem_cons_succ,List.setIfInBounds_toArray,List.set_cons_zero,List.set_cons_succ]
      refine wpAnyH_ready (rs:=[6]) (by kernel_rfl) (by simp) ?_
      refine AllReadyH.cons rfl (fun K hK => ?_) AllReadyH.nil
      go_simp
      have hTa:=hT6.step ((Fr.refl (FrS be bs) w6).alloc (.cells #[.int .u8 y.op, .int .i64 y.n, .slice a2 n2 cap2] 179)) (hT6.ps.alloc _)
      have hEa:=hE6.fr ((Fr.refl (FrS be bs) w6).alloc (.cells #[.int .u8 y.op, .int .i64 y.n, .slice a2 n2 cap2] 179)) hbeB hbsB
      have hxa:=hTa.x.cell 2
      refine hK.out _ _ ?_ (fun hHeld => ?_)
      ·exact hTa.ct.T
      clear hK K
      try simp only [Act.put,List.getElem_toArray,List.getElem_cons_zero,List.getElem_cons_succ,List.setIfInBounds_toArray,List.set_cons_zero,List.set_cons_succ]
      refine wpAnyH_ready (rs:=[7]) (by kernel_rfl) (by simp) ?_
      refine AllReadyH.cons rfl (fun K hK => ?_) AllReadyH.nil
      have hszX:(w6.alloc (.cells #[.int .u8 y.op, .int .i64 y.n, .slice a2 n2 cap2] 179)).heap.size = w6.heap.size + 1:=by simp
      refine step_append_lies _ (by rfl) _ _ _ (by rfl) B0 179 i0 (.agg #[.int .u8 0, .int .i64 0, .slice none 0 0]) 3 40 Tryz.underlying177 hi iz0 iz1 iz2 rfl (by decide) av r.1.length cs (by rfl) hEa.own ⟨w6.heap.size,0,none⟩ 1 1 (#[.int .u8 y.op, .int .i64 y.n, .slice a2 n2 cap2]).toList (by rfl) (by rfl) (World.news_of_block (heap_alloc_new w6 _)) (by simp [Value.oneCell']) (by omega) (by unfold maxLen; omega) (by omega) (by omega) _ rfl ?_
      intro g capg w7 hown7 hgrow7 hat7 hlt7
      have hT7:=hTa.keepB hxB hCB hgrow7.os hgrow7.tape hgrow7.output hgrow7.size (fun b hb => hgrow7.block b (by omega) (fun e => by have:=(hE6.own_ge b e.symm).1; omega))
      have hE7:=hE6.snoc (fun q hq => (hEd.own_ge q hq).2) f6.size hBr hy hgrow7 hat7 hlt7 hown7
      rw [hrl] at hE7
      have hB7:B0 ≤ w7.heap.size:=by have:=hgrow7.size; omega
      have hx7:=hT7.x.cell 2
      have hz7:=hT7.x.free 2
      refine hK.out _ _ ?_ (fun hHeld => ?_)
      ·exact hT7.ct.T
      clear hK K
      try simp only [Act.put,List.getElem_toArray,List.getElem_cons_zero,List.getElem_cons_succ,List.setIfInBounds_toArray,List.set_cons_zero,List.set_cons_succ]
      refine wpAnyH_take (i:=8) (oi:=_) (v := ?_) rfl (by kernel_rfl) (by kernel_rfl) (by kernel_rfl) (fun _ _ _ h => h) (Or.inl ⟨by rfl, ?_⟩) (by assumption) ?_
      rotate_left
      ·intro w' hSw
       (try dsimp only at hSw)
       have l0:=hSw.cell
       unfold takeV at l0
       clear hSw
       go_simp
       try with_reducible rfl
      try simp only [Act.put,List.getElem_toArray,List.getElem_cons_zero,List.getElem_cons_succ,List.setIfInBounds_toArray,List.set_cons_zero,List.set_cons_succ]
      refine wpAnyH_ready (rs:=[9]) (by kernel_rfl) (by simp) ?_
      refine AllReadyH.cons rfl (fun K hK => ?_) AllReadyH.nil
      go_simp
      have hT8:=hT7.setX hfar (.slice (some ⟨g,0,none⟩) (j + 1) capg)
      have hE8:=hE7.keepB (wy:=w7.setCell ⟨bx,2,none⟩ (.slice (some ⟨g,0,none⟩) (j + 1) capg)) (by simp) (fun b hb _ => heap_setCell_other w7 ⟨bx,2,none⟩ b _ (by show b ≠ bx; omega))
      have hB8:B0 ≤ (w7.setCell ⟨bx,2,none⟩ (.slice (some ⟨g,0,none⟩) (j + 1) capg)).heap.size:=by simpa using hB7
      refine hK.out _ _ ?_ (fun hHeld => ?_)
      ·exact hT8.ct.T
      clear hK K
      try simp only [Act.put,List.getElem_toArray,List.getElem_cons_zero,List.getElem_cons_succ,List.setIfInBounds_toArray,List.set_cons_zero,List.set_cons_succ]
      refine wpAnyH_done (by kernel_rfl) ?_ _
      go_wp2_with fail
      go_roundw
      case measure => simp only [intOf]; omega
      case rel => exact ⟨j + 1,_,_,_,rfl,by omega,by rw [HSN.out]; exact hT8,by rw [HSN.out]; exact hE8,hB8⟩
     ·go_simp
      have hTa:=hT6.step ((Fr.refl (FrS be bs) w6).alloc (.cells #[.int .u8 y.op, .int .i64 y.n, .slice a2 n2 cap2] 179)) (hT6.ps.alloc _)
      have hEa:=hE6.fr ((Fr.refl (FrS be bs) w6).alloc (.cells #[.int .u8 y.op, .int .i64 y.n, .slice a2 n2 cap2] 179)) hbeB hbsB
      have hxa:=hTa.x.cell 2
      refine hK.out _ _ ?_ (fun hHeld => ?_)
      ·exact hTa.ct.T
      clear hK K
      try simp only [Act.put,List.getElem_toArray,List.getElem_cons_zero,List.getElem_cons_succ,List.setIfInBounds_toArray,List.set_cons_zero,List.set_cons_succ]
      refine wpAnyH_ready (rs:=[1]) (by kernel_rfl) (by simp) ?_
      refine AllReadyH.cons rfl (fun K hK => ?_) AllReadyH.nil
      go_simp
      refine hK.out _ _ ?_ (fun hHeld => ?_)
      ·exact hTa.ct.T
      clear hK K
      try simp only [Act.put,List.getElem_toArray,List.getElem_cons_zero,List.getElem_cons_succ,List.setIfInBounds_toArray,List.set_cons_zero,List.set_cons_succ]
      refine wpAnyH_ready (rs:=[7]) (by kernel_rfl) (by simp) ?_
      refine AllReadyH.cons rfl (fun K hK => ?_) AllReadyH.nil
      have hszX:(w6.alloc (.cells #[.int .u8 y.op, .int .i64 y.n, .slice a2 n2 cap2] 179)).heap.size = w6.heap.size + 1:=by simp
      refine step_append_lies _ (by rfl) _ _ _ (by rfl) B0 179 i0 (.agg #[.int .u8 0, .int .i64 0, .slice none 0 0]) 3 40 Tryz.underlying177 hi iz0 iz1 iz2 rfl (by decide) av r.1.length cs (by rfl) hEa.own ⟨w6.heap.size,0,none⟩ 1 1 (#[.int .u8 y.op, .int .i64 y.n, .slice a2 n2 cap2]).toList (by rfl) (by rfl) (World.news_of_block (heap_alloc_new w6 _)) (by simp [Value.oneCell']) (by omega) (by unfold maxLen; omega) (by omega) (by omega) _ rfl ?_
      intro g capg w7 hown7 hgrow7 hat7 hlt7
      have hT7:=hTa.keepB hxB hCB hgrow7.os hgrow7.tape hgrow7.output hgrow7.size (fun b hb => hgrow7.block b (by omega) (fun e => by have:=(hE6.own_ge b e.symm).1; omega))
      have hE7:=hE6.snoc (fun q hq => (hEd.own_ge q hq).2) f6.size hBr hy hgrow7 hat7 hlt7 hown7
      rw [hrl] at hE7
      have hB7:B0 ≤ w7.heap.size:=by have:=hgrow7.size; omega
      have hx7:=hT7.x.cell 2
      have hz7:=hT7.x.free 2
      refine hK.out _ _ ?_ (fun hHeld => ?_)
      ·exact hT7.ct.T
      clear hK K
      try simp only [Act.put,List.getElem_toArray,List.getElem_cons_zero,List.getElem_cons_succ,List.setIfInBounds_toArray,List.set_cons_zero,List.set_cons_succ]
      refine wpAnyH_take (i:=8) (oi:=_) (v := ?_) rfl (by kernel_rfl) (by kernel_rfl) (by kernel_rfl) (fun _ _ _ h => h) (Or.inl ⟨by rfl, ?_⟩) (by assumption) ?_
      rotate_left
      ·intro w' hSw
       (try dsimp only at hSw)
       have l0:=hSw.cell
       unfold takeV at l0
       clear hSw
       go_simp
       try with_reducible rfl
      try simp only [Act.put,List.getElem_toArray,List.getElem_cons_zero,List.getElem_cons_succ,List.setIfInBounds_toArray,List.set_cons_zero,List.set_cons_succ]
      refine wpAnyH_ready (rs:=[9]) (by kernel_rfl) (by simp) ?_
      refine AllReadyH.cons rfl (fun K hK => ?_) AllReadyH.nil
      go_simp
      have hT8:=hT7.setX hfar (.slice (some ⟨g,0,none⟩) (j + 1) capg)
      have hE8:=hE7.keepB (wy:=w7.setCell ⟨bx,2,none⟩ (.slice (some ⟨g,0,none⟩) (j + 1) capg)) (by simp) (fun b hb _ => heap_setCell_other w7 ⟨bx,2,none⟩ b _ (by show b ≠ bx; omega))
      have hB8:B0 ≤ (w7.setCell ⟨bx,2,none⟩ (.slice (some ⟨g,0,none⟩) (j + 1) capg)).heap.size:=by simpa using hB7
      refine hK.out _ _ ?_ (fun hHeld => ?_)
      ·exact hT8.ct.T
      clear hK K
      try simp only [Act.put,List.getElem_toArray,List.getElem_cons_zero,List.getElem_cons_succ,List.setIfInBounds_toArray,List.set_cons_zero,List.set_cons_succ]
      refine wpAnyH_done (by kernel_rfl) ?_ _
      go_wp2_with fail
      go_roundw
      case measure => simp only [intOf]; omega
      case rel => exact ⟨j + 1,_,_,_,rfl,by omega,by rw [HSN.out]; exact hT8,by rw [HSN.out]; exact hE8,hB8⟩
   ·have hltd:decide ((j:Int) < (mm:Int)) = false:=decide_eq_false (by omega)
    obtain rfl:j = mm:=by omega
    generalize reps (Rd.ex k) j p3 = r at *
    have z0:=hTr.r.free 0
    have z1:=hTr.r.free 1
    have z2:=hTr.r.free 2
    have r0:=hTr.r.cell 0
    have r1:=hTr.r.cell 1
    have r2:=hTr.r.cell 2
    have x0:=hTr.x.cell 0
    have x1:=hTr.x.cell 1
    have x2:=hTr.x.cell 2
    have hA:=hEr.args
    obtain ⟨a2,n2,cap2,rfl⟩:=hA.slice
    have hfr:=hTr.fr
    have hps:=hTr.ps
    have hrr:=hTr.r
    clear hTr hEr hT hE
    go_wp2_with fail
    refine bodyPost_ret (v := .agg #[_,_,_]) (results_cell_row rfl _ _ w.heap.size 179 _ (0,0) _ rfl (ex_set hrr rfl _ _ _) Tryz.underlying179 rfl ?_) rfl ⟨.slice a2 n2 cap2, ?_, ?_, ?_, ?_⟩
    ·as_aux_lemma => kernel_rfl
    ·rw [HE.out]; rfl
    ·rw [HE.out]
     refine hA.keep (fun b hb => ⟨Nat.le_trans hwB hb.1,by simpa using hb.2⟩) (fun b hb => ?_)
     have hne:b ≠ w.heap.size:=by have:=hb.1; omega
     rw [heap_setCell_other _ ⟨w.heap.size,2,none⟩ b _ hne,heap_setCell_other _ ⟨w.heap.size,1,none⟩ b _ hne,heap_setCell_other _ ⟨w.heap.size,0,none⟩ b _ hne]
    ·rw [HE.out]
     exact PS.far3 hps (Nat.ne_of_lt hel) (Nat.ne_of_lt hsl) _ _ _
    ·exact ((hfr.setCell (p:=⟨w.heap.size,0,none⟩) (.inr (Nat.le_refl _)) _).setCell (p:=⟨w.heap.size,1,none⟩) (.inr (Nat.le_refl _)) _).setCell (p:=⟨w.heap.size,2,none⟩) (.inr (Nat.le_refl _)) _
theorem takeEx_c:∀ (k:Nat),k ≤ 100 → TakeC k
 | 0,_ => by
  intro be bs bf bn bm bl bt p w _ h hc
  refine (takeEx_0 be bs bf bn bm bl bt p w h hc).mono ?_
  rintro e w' ⟨rfl,h2,f2⟩
  exact ⟨.slice none 0 0,rfl, .nil _ _ (Nat.zero_le _),h2,f2⟩
 | k + 1,hk => takeEx_step k (by omega) (Lib.hid (takeEx_c k (by omega)))
def Rd.nd3 (p:Rd):Int × Rd:=p.text.2.small.2.num.2.many 12
def Rd.nd (p:Rd):Nd × Rd :=
 (⟨p.text.1,p.text.2.small.1,(reps Rd.num p.nd3.1.toNat p.nd3.2).1,(Rd.ex 17 (reps Rd.num p.nd3.1.toNat p.nd3.2).2).1,p.text.2.small.2.num.1⟩,(Rd.ex 17 (reps Rd.num p.nd3.1.toNat p.nd3.2).2).2)
def takeNds:Nat → Rd → List Nd × Rd
 | 0,p => ([],p)
 | m + 1,p => if p.nd.2.e ≠ 0 then ([p.nd.1],p.nd.2) else (p.nd.1 :: (takeNds m p.nd.2).1,(takeNds m p.nd.2).2)
def Rd.jb (s:ByteArray):Jb × Rd :=
 let q:=Rd.num ⟨s,0⟩
 let m:=q.2.many 12
 (⟨q.1,(takeNds m.1.toNat m.2).1⟩,(takeNds m.1.toNat m.2).2)
theorem Rd.text_size (p:Rd):p.text.2.s.size ≤ p.s.size:=by
 unfold Rd.text
 split
 ·exact cut_size _ _
 ·exact Nat.le_refl _
def PutExC (h:Nat):Prop:=∀ (x:Ex) (v:Value) (B:Nat) (w:World),x.ht ≤ h → x.ok → x.by.length ≤ 1000000 → ExAt w B v x → B ≤ w.heap.size →
 Calls Tryz.prog 160 #[v] w fun e w' => e = .returned (.string (bstr x.by)) ∧ Below w.heap.size w w'
set_option maxHeartbeats 4000000 in
theorem putEx_step (h:Nat) (IH:Hid (∀ x:Ex,x.ht < h → ∀ (v:Value) (B:Nat) (w:World),x.ok → x.by.length ≤ 1000000 → ExAt w B v x → B ≤ w.heap.size →
   Calls Tryz.prog 160 #[v] w fun e w' => e = .returned (.string (bstr x.by)) ∧ Below w.heap.size w w')):PutExC h:=by
 intro x v B w hh hok hby hv hB
 have HLT:Hid (∀ a ∈ x.args,a.ht < h):=fun a ha => by have:=Ex.ht_args x a ha; omega
 obtain ⟨hop1,hop2,hn1,hn2,hoa⟩:=Ex.okC hok
 have HOK:=Lib.hid (Exs.okC x.args hoa)
 clear hoa
 have hbe:=Ex.by_eq x
 obtain ⟨sv,rfl,hs⟩:=hv
 obtain ⟨a,cap,rfl,hcap,hmx⟩:=hs.slice
 have HS:=Lib.hid hs
 have hll:x.args.length ≤ 9223372036854775807:=by unfold maxLen at hmx; omega
 rw [hbe] at hby ⊢
 generalize x.op = o at *
 generalize x.n = n at *
 generalize x.args = l at *
 clear hs hh hok hbe
 have hrng:∀ z ∈ [o,n,(l.length:Int)], -9223372036854775808 ≤ z ∧ z ≤ 9223372036854775807:=by
  intro z hz
  simp only [List.mem_cons,List.not_mem_nil,or_false] at hz
  rcases hz with rfl | rfl | rfl <;> omega
 have HRG:=Lib.hid hrng
 rw [List.length_append] at hby
 generalize hP:putL [o,n,(l.length:Int)] = P at *
 have HP:=Lib.hid hP
 clear hP hrng
 have HTL:Hid (∀ k,(Exs.by (l.take k)).length ≤ (Exs.by l).length):=Exs.by_take_le l
 have hW:=(Below.refl w.heap.size w).alloc (Nat.le_refl _) (.cells #[.int .u8 o, .int .i64 n, .slice a l.length cap] 179)
 have hbx:=Blk.new w #[.int .u8 o, .int .i64 n, .slice a l.length cap] 179
 go_enter Tryz.func160,Tryz.ntmps160
 go_upto_region 1 with fail
 generalize World.alloc w _ = W at *
 have p0:=hbx.cell 0
 have p1:=hbx.cell 1
 have p2:=hbx.cell 2
 go_wp2_with fail
 have hsl:Sl (W.alloc (.cells #[.int .i64 o, .int .i64 n, .int .i64 (l.length:Int)] 2)) (W.alloc (.cells #[.int .i64 o, .int .i64 n, .int .i64 (l.length:Int)] 2)).heap.size 1 (.slice (some ⟨W.heap.size,0,none⟩) 3 3) 3 ([o,n,(l.length:Int)].map (Value.int .i64)) :=
  ⟨rfl,_,3,rfl,Nat.le_refl _,by unfold maxLen; omega, .inr ⟨W.heap.size,0,rfl,by simp,fun j hj => by rw [Nat.zero_add,(Blk.new W _ _).cell]; simp⟩⟩
 refine (PutB_c [o,n,(l.length:Int)] 3 _ _ _ hsl rfl (Nat.le_refl _) HRG.out (by omega)).mono ?_
 rw [HP.out]
 rintro e w1 ⟨rfl,hb1⟩
 have hq1:Below W.heap.size W w1:=((Below.refl W.heap.size W).alloc (Nat.le_refl _) _).trans (hb1.mono (by simp))
 have hW1:=hW.trans (hq1.mono hW.size)
 have hbx1:=hbx.below hq1 hbx.lt
 clear p0 p1 p2 hsl hb1 hq1 hW hbx
 have p0:=hbx1.cell 0
 have p1:=hbx1.cell 1
 have p2:=hbx1.cell 2
 have hzw:=hbx1.lt
 have hPe:(⟨P.toArray⟩:ByteArray) = bstr (P ++ Exs.by (l.take 0)):=by simp [bstr,Exs.by]
 rw [hPe]
 go_wp2_with fail
 clear p0 p1 p2 hPe
 go_loopw [3,19] (fun s q wr => ∃ k:Nat,q = .int .i64 k ∧ k ≤ l.length ∧ s = .string (bstr (P ++ Exs.by (l.take k))) ∧ Below w1.heap.size w1 wr) (fun _ q _ => l.length - (intOf q).toNat)
 case atStart => exact ⟨0,rfl,Nat.zero_le _,rfl,Below.refl _ _⟩
 case round =>
  obtain ⟨k,rfl,hk,rfl,hBr0⟩:=hrel
  have hBr:=hW1.trans (hBr0.mono hW1.size)
  by_cases hlt:k < l.length
  ·obtain ⟨b,off,cp,sv,e1,hb,c0,c1,c2,hsub⟩:=((HS.out.mono hB).keep hBr).at_ k hlt
   simp only [Value.slice.injEq,true_and] at e1
   obtain ⟨rfl,rfl⟩:=e1
   obtain ⟨a2,cap2,rfl,_,_⟩:=hsub.slice
   have hht:=HLT.out _ (List.getElem_mem hlt)
   have hoky:=HOK.out k hlt
   have HTK:=Lib.hid (Exs.by_take l k hlt)
   have hb1:=HTL.out k
   have hb2:=HTL.out (k + 1)
   rw [HTK.out,List.length_append] at hb2
   generalize l[k] = y at *
   generalize Exs.by (l.take k) = T0 at *
   have hAl:=hBr.alloc hBr.size (.cells #[.int .u8 y.op, .int .i64 y.n, .slice a2 y.args.length cap2] 179)
   have HX:Hid (ExAt (wr.alloc (.cells #[.int .u8 y.op, .int .i64 y.n, .slice a2 y.args.length cap2] 179)) w.heap.size (.agg #[.int .u8 y.op, .int .i64 y.n, .slice a2 y.args.length cap2]) y) :=
    ⟨_,rfl,hsub.keep ((Below.refl _ wr).alloc hBr.size _)⟩
   clear hsub
   have HCY:=Lib.hid (IH.out y hht _ _ _ hoky (by omega) HX.out hAl.size)
   have hs1:=bstr_size (P ++ T0)
   have hs2:=bstr_size y.by
   rw [List.length_append] at hs1
   have HBA:=Lib.hid (bstr_app (P ++ T0) y.by)
   generalize hyb:y.by = yb at *
   clear hyb
   generalize bstr (P ++ T0) = S0 at *
   generalize hyv:bstr yb = Sy at *
   go_wp2_with fail
   refine HCY.out.mono ?_
   rintro e w3 ⟨rfl,hb3⟩
   go_wp2_with fail
   go_roundw
   case rel =>
    refine ⟨k + 1,by go_num,by omega, ?_,((hBr0.alloc hBr0.size _).trans (hb3.mono (hBr0.alloc hBr0.size _).size))⟩
    rw [HTK.out, ← List.append_assoc,HBA.out]
   case measure => simp [intOf]; omega
  ·obtain rfl:k = l.length:=by omega
   rw [List.take_of_length_le (Nat.le_refl _)]
   go_wp2_with fail
   go_ret
   exact ⟨rfl,hBr⟩
theorem putEx_all (h:Nat):PutExC h:=by
 induction h using Nat.strongRecOn with
 | ind h ih => exact putEx_step h (fun x hx v B w hok hl hv hB => ih x.ht hx x v B w (Nat.le_refl _) hok hl hv hB)
end Go.Proofs.YtpkijdkoiecpiaaGreatDoor
