/-
  Parts of the proof besides: A0 J1 OS H2.
-/
import Derived.Test.YtpkijdkoiecpiaaGreatDoorChecked
import Derived.ProofKit
import Derived.Lib.SmallJoins
import Derived.Test.YtpkijdkoiecpiaaGreatDoorZS23
import Derived.Test.YtpkijdkoiecpiaaGreatDoorZS12
import Derived.Test.YtpkijdkoiecpiaaGreatDoorZS31
namespace Go.Proofs.YtpkijdkoiecpiaaGreatDoor
open Go.RowKit
set_option linter.unusedVariables false
set_option linter.unusedSimpArgs false
section
open Go.RowKit Go.ChangeShapes Go.WideShapes
theorem cellsExpr:Tryz.prog.cellsOf 179 = 3:=by kernel_rfl
theorem Exs.ok_of:∀ (l:List Ex),(∀ j (h:j < l.length),(l[j]'h).ok) → Exs.ok l
 | [],_ => trivial
 | x :: l,h => ⟨h 0 (by simp),Exs.ok_of l (fun j hj => h (j + 1) (by simpa using hj))⟩
section
variable {H:Type} {enc:TypeId × Value → H} {w:World}
theorem add_spot {w:World} {a:Addr} {v:Value} (h:w.cell? a = some v):a = ⟨a.block,a.off,none⟩:=by
 obtain ⟨b,o,s⟩:=a
 cases s with
 | none => rfl
 | some q =>
  unfold World.cell? at h
  split at h <;> simp at h
set_option maxRecDepth 100000 in
theorem open_exs (fuel:Nat):∀ (sv:Value) (x:DataW H × List MemPlace),DataW.trod enc Tryz.prog w 0 (fun _ => true) true fuel 177 [sv] = some x →
  ∃ l:List Ex,ArgsAt w w.heap.size l sv ∧ Exs.ok l:=by
 induction fuel using Nat.strongRecOn with
 | ind fuel ih =>
  intro sv x h
  rcases DataW.trod_slice Tryz.underlying177 h with ⟨h0,_⟩ | ⟨a,len,cap,elems,rest,n,hf,hcs,hx,hb,hl,hm,hlen,hel,_,_⟩
  ·simp only [List.cons.injEq,and_true] at h0
   subst h0
   exact ⟨[], .nil none 0 (Nat.zero_le _),trivial⟩
  ·simp only [List.cons.injEq,and_true] at hcs
   subst hcs
   rw [cellsExpr] at hel
   have hex:∀ i,i < len → ∃ (y:Ex) (sv:Value),w.cell? (a.add (i * 3)) = some (.int .u8 y.op) ∧ w.cell? (a.add (i * 3 + 1)) = some (.int .i64 y.n) ∧ w.cell? (a.add (i * 3 + 2)) = some sv ∧ ArgsAt w w.heap.size y.args sv ∧ y.ok:=by
    intro i hi
    have hi2:i < elems.length:=by omega
    have h1:=hel i hi
    rw [List.getElem?_eq_getElem hi2] at h1
    obtain ⟨cs,h2,h3⟩:=Option.bind_eq_some_iff.1 h1
    obtain ⟨_,hcl,hcell⟩:=World.cells?_some h2
    obtain ⟨xs,m,hm2,_,_,_,hfs⟩:=DataW.trod_struct Tryz.underlying179 h3
    match cs,hcl with
    | [c0,c1,c2],_ =>
     have q0:=hfs 0 _ rfl
     have q1:=hfs 1 _ rfl
     have q2:=hfs 2 _ rfl
     have hxl:xs.length = 3:=by assumption
     obtain ⟨y0,y1,y2,rfl⟩:∃ y0 y1 y2,xs = [y0,y1,y2]:=by
      match xs,hxl with
      | [y0,y1,y2],_ => exact ⟨y0,y1,y2,rfl⟩
     have e0:DataW.trod enc Tryz.prog w 0 (fun _ => true) true m 5 [c0] = some y0:=q0
     have e1:DataW.trod enc Tryz.prog w 0 (fun _ => true) true m 2 [c1] = some y1:=q1
     have e2:DataW.trod enc Tryz.prog w 0 (fun _ => true) true m 177 [c2] = some y2:=q2
     obtain ⟨o,ho,_,hwo⟩:=DataW.trod_int Tryz.underlying5 e0
     obtain ⟨k,hk,_,hwk⟩:=DataW.trod_int Tryz.underlying2 e1
     simp only [List.cons.injEq,and_true] at ho hk
     subst ho
     subst hk
     obtain ⟨l,hl1,hl2⟩:=ih m (by omega) c2 y2 e2
     have g0:=hcell 0 (by omega)
     have g1:=hcell 1 (by omega)
     have g2:=hcell 2 (by omega)
     rw [Go.Deep.add_add] at g0 g1 g2
     simp only [Lit.wf,IntKind.min,IntKind.max,IntKind.signed,IntKind.bits,Bool.and_eq_true,decide_eq_true_eq] at hwo hwk
     refine ⟨.mk o k l,c2,by simpa [Ex.op] using g0,by simpa [Ex.n] using g1,by simpa using g2,hl1, ?_⟩
     simp only [Ex.ok]
     refine ⟨?_, ?_, ?_, ?_,hl2⟩
     ·have:=hwo.1; simp at this; omega
     ·have:=hwo.2; simp at this; omega
     ·have:=hwk.1; simp at this; omega
     ·have:=hwk.2; simp at this; omega
   by_cases h0:len = 0
   ·subst h0
    exact ⟨[], .nil _ _ hm,trivial⟩
   ·obtain ⟨Y,hY⟩ := @Go.Deep.choose_lt Ex ⟨.mk 0 0 []⟩ len _ hex
    obtain ⟨V,hV⟩:=Go.Deep.choose_lt hY
    obtain ⟨b,off,rfl⟩:∃ b off,a = ⟨b,off,none⟩:=⟨_,_,add_spot (by have:=(hV 0 (by omega)).1; simpa [Addr.add] using this)⟩
    have hlt:b < w.heap.size:=World.block_lt_of_cell? _ _ (by have:=(hV 0 (by omega)).1; simpa [Addr.add] using this:w.cell? ⟨b,off,none⟩ = some _)
    have hadd:∀ k,(⟨b,off,none⟩:Addr).add k = ⟨b,off + k,none⟩:=by
     intro k; unfold Addr.add; split
     ·rename_i h; rw [h]; rfl
     ·rfl
    have hg:∀ j (h:j < ((List.range len).map Y).length),((List.range len).map Y)[j]'h = Y j:=by intro j h; simp
    have hA:=ArgsAt.cons (w:=w) (B:=w.heap.size) ((List.range len).map Y) b off cap V (by simp; omega) hlt (by simpa using hl) hm
     (fun j h => by rw [hg]; have:=(hV j (by simpa using h)).1; rwa [hadd] at this)
     (fun j h => by rw [hg]; have:=(hV j (by simpa using h)).2.1; rwa [hadd, ← Nat.add_assoc] at this)
     (fun j h => by have:=(hV j (by simpa using h)).2.2.1; rwa [hadd, ← Nat.add_assoc] at this)
     (fun j h => by rw [hg]; exact (hV j (by simpa using h)).2.2.2.1)
    refine ⟨(List.range len).map Y, ?_,Exs.ok_of _ (fun j h => by rw [hg]; exact (hV j (by simpa using h)).2.2.2.2)⟩
    simpa using hA
end
end
section
open Go.RowKit Go.ChangeShapes Go.WideShapes
theorem cellsNode:Tryz.prog.cellsOf 181 = 7:=by kernel_rfl
theorem cellsInt:Tryz.prog.cellsOf 3 = 1:=by kernel_rfl
section
variable {H:Type} {enc:TypeId × Value → H} {w:World}
theorem wf_u8r {k:Int} (h:(Lit.int .u8 k).wf = true):0 ≤ k ∧ k ≤ 255:=by
 simp only [Lit.wf,IntKind.min,IntKind.max,IntKind.signed,IntKind.bits,Bool.and_eq_true] at h
 have h1:=h.1
 have h2:=h.2
 simp at h1 h2
 omega
set_option maxRecDepth 100000 in
theorem open_ints1 (fuel:Nat) (sv:Value) (x:DataW H × List MemPlace) (h:DataW.trod enc Tryz.prog w 0 (fun _ => true) true fuel 176 [sv] = some x) :
  ∃ l:List Int,Sl w w.heap.size 1 sv l.length (l.map (Value.int .i64)) ∧ ∀ z ∈ l, -9223372036854775808 ≤ z ∧ z ≤ 9223372036854775807:=by
 rcases DataW.trod_slice Tryz.underlying176 h with ⟨h0,_⟩ | ⟨a,len,cap,elems,rest,n,hf,hcs,hx,hb,hl,hm,hlen,hel,_,_⟩
 ·simp only [List.cons.injEq,and_true] at h0
  subst h0
  exact ⟨[],Sl.nil _ _ _,by simp⟩
 ·simp only [List.cons.injEq,and_true] at hcs
  subst hcs
  rw [cellsInt] at hel
  have hex:∀ i,i < len → ∃ z:Int,w.cell? (a.add i) = some (.int .i64 z) ∧ -9223372036854775808 ≤ z ∧ z ≤ 9223372036854775807:=by
   intro i hi
   have hi2:i < elems.length:=by omega
   have h1:=hel i hi
   rw [List.getElem?_eq_getElem hi2] at h1
   obtain ⟨cs,h2,h3⟩:=Option.bind_eq_some_iff.1 h1
   obtain ⟨_,hcl,hcell⟩:=World.cells?_some h2
   match cs,hcl with
   | [c0],_ =>
    obtain ⟨o,ho,_,hwo⟩:=DataW.trod_int Tryz.underlying3 h3
    simp only [List.cons.injEq,and_true] at ho
    subst ho
    have g0:=hcell 0 (by omega)
    rw [Go.Deep.add_add] at g0
    exact ⟨o,by simpa using g0,wf_i64r hwo⟩
  by_cases h0:len = 0
  ·subst h0
   exact ⟨[],⟨rfl,_,cap,rfl,Nat.zero_le _,hm, .inl rfl⟩,by simp⟩
  ·obtain ⟨Y,hY⟩ := @Go.Deep.choose_lt Int ⟨0⟩ len _ hex
   obtain ⟨b,off,rfl⟩:∃ b off,a = ⟨b,off,none⟩:=⟨_,_,add_spot (by have:=(hY 0 (by omega)).1; simpa [Addr.add] using this)⟩
   have hlt:b < w.heap.size:=World.block_lt_of_cell? _ _ (by have:=(hY 0 (by omega)).1; simpa [Addr.add] using this:w.cell? ⟨b,off,none⟩ = some _)
   refine ⟨(List.range len).map Y,⟨by simp,some ⟨b,off,none⟩,cap,by simp,by simpa using hl,hm, .inr ⟨b,off,rfl,hlt,fun j hj => ?_⟩⟩, ?_⟩
   ·have hj':j < len:=by simpa using hj
    have:=(hY j hj').1
    rw [addr_add] at this
    rw [this]
    simp [hj']
   ·intro z hz
    obtain ⟨i,hi,rfl⟩:=List.mem_map.1 hz
    exact (hY i (by simpa using hi)).2
set_option maxRecDepth 100000 in
theorem open_nodes (fuel:Nat) (sv:Value) (x:DataW H × List MemPlace) (h:DataW.trod enc Tryz.prog w 0 (fun _ => true) true fuel 24 [sv] = some x) :
  ∃ l:List Nd,NodesAt w w.heap.size l sv ∧ ∀ d ∈ l,d.ok:=by
 rcases DataW.trod_slice Tryz.underlying24 h with ⟨h0,_⟩ | ⟨a,len,cap,elems,rest,n,hf,hcs,hx,hb,hl,hm,hlen,hel,_,_⟩
 ·simp only [List.cons.injEq,and_true] at h0
  subst h0
  exact ⟨[],⟨none,0,rfl,Nat.zero_le _,Nat.zero_le _, .inl rfl⟩,by simp⟩
 ·simp only [List.cons.injEq,and_true] at hcs
  subst hcs
  rw [cellsNode] at hel
  have hex:∀ i,i < len → ∃ (y:Nd) (iv sv:Value),w.cell? (a.add (i * 7)) = some (.string y.uid) ∧ w.cell? (a.add (i * 7 + 1)) = some (.int .u8 y.kind) ∧ w.cell? (a.add (i * 7 + 2)) = some iv ∧
    w.cell? (a.add (i * 7 + 3)) = some (.int .u8 y.x.op) ∧ w.cell? (a.add (i * 7 + 4)) = some (.int .i64 y.x.n) ∧ w.cell? (a.add (i * 7 + 5)) = some sv ∧ w.cell? (a.add (i * 7 + 6)) = some (.int .i64 y.n) ∧
    NdIn w w.heap.size iv sv y ∧ y.uid.size ≤ maxLen ∧ y.ok:=by
   intro i hi
   have hi2:i < elems.length:=by omega
   have h1:=hel i hi
   rw [List.getElem?_eq_getElem hi2] at h1
   obtain ⟨cs,h2,h3⟩:=Option.bind_eq_some_iff.1 h1
   obtain ⟨_,hcl,hcell⟩:=World.cells?_some h2
   obtain ⟨xs,m,hm2,_,_,hxl,hfs⟩:=DataW.trod_struct Tryz.underlying181 h3
   match cs,hcl with
   | [c0,c1,c2,c3,c4,c5,c6],_ =>
    have q0:=hfs 0 _ rfl
    have q1:=hfs 1 _ rfl
    have q2:=hfs 2 _ rfl
    have q3:=hfs 3 _ rfl
    have q4:=hfs 4 _ rfl
    have hxl:xs.length = 5:=by assumption
    obtain ⟨y0,y1,y2,y3,y4,rfl⟩:∃ y0 y1 y2 y3 y4,xs = [y0,y1,y2,y3,y4]:=by
     match xs,hxl with
     | [y0,y1,y2,y3,y4],_ => exact ⟨y0,y1,y2,y3,y4,rfl⟩
    have e0:DataW.trod enc Tryz.prog w 0 (fun _ => true) true m 9 [c0] = some y0:=q0
    have e1:DataW.trod enc Tryz.prog w 0 (fun _ => true) true m 5 [c1] = some y1:=q1
    have e2:DataW.trod enc Tryz.prog w 0 (fun _ => true) true m 176 [c2] = some y2:=q2
    have e3:DataW.trod enc Tryz.prog w 0 (fun _ => true) true m 179 [c3,c4,c5] = some y3:=q3
    have e4:DataW.trod enc Tryz.prog w 0 (fun _ => true) true m 3 [c6] = some y4:=q4
    obtain ⟨s,hs,_,hws⟩:=DataW.trod_string Tryz.underlying9 e0
    obtain ⟨o,ho,_,hwo⟩:=DataW.trod_int Tryz.underlying5 e1
    obtain ⟨k,hk,_,hwk⟩:=DataW.trod_int Tryz.underlying3 e4
    obtain ⟨li,hli1,hli2⟩:=open_ints1 m c2 y2 e2
    obtain ⟨zs,m2,_,_,_,hzl,hgs⟩:=DataW.trod_struct Tryz.underlying179 e3
    have p0:=hgs 0 _ rfl
    have p1:=hgs 1 _ rfl
    have p2:=hgs 2 _ rfl
    have hzl:zs.length = 3:=by assumption
    obtain ⟨z0,z1,z2,rfl⟩:∃ z0 z1 z2,zs = [z0,z1,z2]:=by
     match zs,hzl with
     | [z0,z1,z2],_ => exact ⟨z0,z1,z2,rfl⟩
    have f0:DataW.trod enc Tryz.prog w 0 (fun _ => true) true m2 5 [c3] = some z0:=p0
    have f1:DataW.trod enc Tryz.prog w 0 (fun _ => true) true m2 2 [c4] = some z1:=p1
    have f2:DataW.trod enc Tryz.prog w 0 (fun _ => true) true m2 177 [c5] = some z2:=p2
    obtain ⟨xo,hxo,_,hwxo⟩:=DataW.trod_int Tryz.underlying5 f0
    obtain ⟨xk,hxk,_,hwxk⟩:=DataW.trod_int Tryz.underlying2 f1
    obtain ⟨la,hla1,hla2⟩:=open_exs m2 c5 z2 f2
    simp only [List.cons.injEq,and_true] at hs ho hk hxo hxk
    subst hs ho hk hxo hxk
    have g0:=hcell 0 (by omega)
    have g1:=hcell 1 (by omega)
    have g2:=hcell 2 (by omega)
    have g3:=hcell 3 (by omega)
    have g4:=hcell 4 (by omega)
    have g5:=hcell 5 (by omega)
    have g6:=hcell 6 (by omega)
    rw [Go.Deep.add_add] at g0 g1 g2 g3 g4 g5 g6
    have r1:=wf_u8r hwo
    have r2:=wf_i64r hwk
    have r3:=wf_u8r hwxo
    have r4:=wf_i64r hwxk
    exact ⟨⟨s,o,li, .mk xo xk la,k⟩,c2,c5,by simpa using g0,by simpa using g1,by simpa using g2,by simpa [Ex.op] using g3,by simpa [Ex.n] using g4,by simpa using g5,by simpa using g6,⟨hli1,hla1⟩,hws,
     r1.1,r1.2,hli2,by simp only [Ex.ok]; exact ⟨r3.1,r3.2,r4.1,r4.2,hla2⟩,r2.1,r2.2⟩
  by_cases h0:len = 0
  ·subst h0
   exact ⟨[],⟨_,cap,rfl,Nat.zero_le _,hm, .inl rfl⟩,by simp⟩
  ·obtain ⟨Y,hY⟩ := @Go.Deep.choose_lt Nd ⟨⟨ByteArray.empty,0,[], .mk 0 0 [],0⟩⟩ len _ hex
   obtain ⟨V,hV⟩:=Go.Deep.choose_lt hY
   obtain ⟨U,hU⟩:=Go.Deep.choose_lt hV
   obtain ⟨b,off,rfl⟩:∃ b off,a = ⟨b,off,none⟩:=⟨_,_,add_spot (by have:=(hU 0 (by omega)).1; simpa [Addr.add] using this)⟩
   have hlt:b < w.heap.size:=World.block_lt_of_cell? _ _ (by have:=(hU 0 (by omega)).1; simpa [Addr.add] using this:w.cell? ⟨b,off,none⟩ = some _)
   refine ⟨(List.range len).map Y,⟨some ⟨b,off,none⟩,cap,by simp,by simpa using hl,hm, .inr ⟨b,off,rfl,hlt,fun j hj => ?_⟩⟩, ?_⟩
   ·have hj':j < len:=by simpa using hj
    obtain ⟨c0,c1,c2,c3,c4,c5,c6,hin,hu,_⟩:=hU j hj'
    simp only [addr_add, ← Nat.add_assoc] at c0 c1 c2 c3 c4 c5 c6
    have hg:((List.range len).map Y)[j]'hj = Y j:=by simp
    rw [hg]
    exact ⟨hu,V j,U j,c0,c1,c2,c3,c4,c5,c6,hin⟩
   ·intro z hz
    obtain ⟨i,hi,rfl⟩:=List.mem_map.1 hz
    exact (hU i (by simpa using hi)).2.2.2.2.2.2.2.2.2
end
end
theorem ArgsIn.of_at {w:World} {B:Nat} {l:List Ex} {v:Value} (h:ArgsAt w B l v):ArgsIn w (· < B) l v:=by
 induction h with
 | nil a cap hm => exact .nil a cap hm
 | cons l b off cap sv hl hb hcap hm h0 h1 h2 _ ih => exact .cons l b off cap sv hl hb hcap hm h0 h1 h2 ih
namespace NodesIn
variable {w w':World} {P Q:Nat → Prop} {l:List Nd} {v:Value}
theorem of_at {B:Nat} (h:NodesAt w B l v):NodesIn w (· < B) l v:=by
 obtain ⟨a,cap,rfl,h1,h2,h3⟩:=h
 refine ⟨a,cap,rfl,h1,h2,h3.imp id ?_⟩
 rintro ⟨b,off,rfl,hb,hc⟩
 refine ⟨b,off,rfl,hb,fun j hj => ?_⟩
 obtain ⟨u,iv,sv,c0,c1,c2,c3,c4,c5,c6,hs⟩:=hc j hj
 exact ⟨u,iv,sv,c0,c1,c2,c3,c4,c5,c6,hs.1,ArgsIn.of_at hs.2⟩
end NodesIn
section
open Go.RowKit Go.ChangeShapes Go.WideShapes
namespace StaRd
variable {w w':World} {P Q:Nat → Prop} {v:Value} {l:List Sta}
end StaRd
theorem cellsState:Tryz.prog.cellsOf 151 = 2:=by kernel_rfl
section
variable {H:Type} {enc:TypeId × Value → H} {w:World}
set_option maxRecDepth 100000 in
theorem open_state (m:Nat) (c0 c1:Value) (y:DataW H × List MemPlace) (h:DataW.trod enc Tryz.prog w 0 (fun _ => true) true m 151 [c0,c1] = some y) :
  ∃ x:Sta,c0 = .string x.uid ∧ c1 = .string x.bytes:=by
 obtain ⟨xs,m1,hm2,_,_,hxl,hfs⟩:=DataW.trod_struct Tryz.underlying151 h
 have q0:=hfs 0 _ rfl
 have q1:=hfs 1 _ rfl
 have hxl:xs.length = 2:=by assumption
 obtain ⟨y0,y1,rfl⟩:∃ y0 y1,xs = [y0,y1]:=by
  match xs,hxl with
  | [y0,y1],_ => exact ⟨y0,y1,rfl⟩
 have e0:DataW.trod enc Tryz.prog w 0 (fun _ => true) true m1 9 [c0] = some y0:=q0
 have e1:DataW.trod enc Tryz.prog w 0 (fun _ => true) true m1 9 [c1] = some y1:=q1
 obtain ⟨s0,h0,_,w0⟩:=DataW.trod_string Tryz.underlying9 e0
 obtain ⟨s1,h1,_,w1⟩:=DataW.trod_string Tryz.underlying9 e1
 simp only [List.cons.injEq,and_true] at h0 h1
 exact ⟨⟨s0,s1⟩,h0,h1⟩
set_option maxRecDepth 100000 in
theorem open_stateRow (fuel:Nat) (sv:Value) (x:DataW H × List MemPlace) (h:DataW.trod enc Tryz.prog w 0 (fun _ => true) true fuel 79 [sv] = some x) :
  ∃ l:List Sta,StaRd w (· < w.heap.size) sv l:=by
 rcases DataW.trod_slice Tryz.underlying79 h with ⟨h0,_⟩ | ⟨a,len,cap,elems,rest,n,hf,hcs,hx,hb,hl,hm,hlen,hel,_,_⟩
 ·simp only [List.cons.injEq,and_true] at h0
  subst h0
  exact ⟨[],StaRd.nil _ _⟩
 ·simp only [List.cons.injEq,and_true] at hcs
  subst hcs
  rw [cellsState] at hel
  have hex:∀ i,i < len → ∃ y:Sta,w.cell? (a.add (i * 2)) = some (.string y.uid) ∧ w.cell? (a.add (i * 2 + 1)) = some (.string y.bytes):=by
   intro i hi
   have hi2:i < elems.length:=by omega
   have h1:=hel i hi
   rw [List.getElem?_eq_getElem hi2] at h1
   obtain ⟨cs,h2,h3⟩:=Option.bind_eq_some_iff.1 h1
   obtain ⟨_,hcl,hcell⟩:=World.cells?_some h2
   match cs,hcl with
   | [c0,c1],_ =>
    obtain ⟨y,rfl,rfl⟩:=open_state _ c0 c1 _ h3
    have g0:=hcell 0 (by omega)
    have g1:=hcell 1 (by omega)
    rw [Go.Deep.add_add] at g0 g1
    exact ⟨y,by simpa using g0,by simpa using g1⟩
  by_cases h0:len = 0
  ·subst h0
   exact ⟨[],⟨_,cap,rfl,Nat.zero_le _,hm, .inl rfl⟩⟩
  ·obtain ⟨Y,hY⟩ := @Go.Deep.choose_lt Sta ⟨⟨.empty, .empty⟩⟩ len _ hex
   have h00:w.cell? a = some (.string (Y 0).uid):=by
    have:=(hY 0 (by omega)).1
    simpa [Addr.add] using this
   obtain ⟨b,off,rfl⟩:∃ b off,a = ⟨b,off,none⟩:=⟨_,_,add_spot h00⟩
   have hlt:b < w.heap.size:=World.block_lt_of_cell? _ _ h00
   refine ⟨(List.range len).map Y,⟨some ⟨b,off,none⟩,cap,by simp,by simpa using hl,hm, .inr ⟨b,off,rfl,hlt,fun j hj => ?_⟩⟩⟩
   have hj':j < len:=by simpa using hj
   obtain ⟨hc0,hc1⟩:=hY j hj'
   have hg:((List.range len).map Y)[j]'hj = Y j:=by simp
   rw [hg]
   rw [addr_add] at hc0 hc1
   exact ⟨hc0,by rw [Nat.add_assoc]; exact hc1⟩
set_option maxRecDepth 100000 in
theorem open_save {r:Reach} {b0:Nat} {v:Value} {d:DataW H} {p:List MemPlace} (hv:Value.okWide Tryz.prog w r b0 81 v) (h:DataW.Trod enc Tryz.prog w 0 (fun _ => true) true 81 v d p) :
  ∃ x:Sv,SvIn w (· < w.heap.size) v x ∧ x.Ok:=by
 obtain ⟨cs,rfl,hsz⟩:=okWide_struct Tryz.underlying81 hv
 have hsz:cs.size = 5:=hsz.trans (by kernel_rfl)
 obtain ⟨c0,c1,c2,c3,c4,rfl⟩:∃ c0 c1 c2 c3 c4,cs = #[c0,c1,c2,c3,c4]:=by
  obtain ⟨cl⟩:=cs
  match cl,hsz with
  | [c0,c1,c2,c3,c4],_ => exact ⟨c0,c1,c2,c3,c4,rfl⟩
 obtain ⟨fuel,hf⟩:=h
 obtain ⟨xs,m1,hm2,_,_,hxl,hfs⟩:=DataW.trod_struct Tryz.underlying81 hf
 have q0:=hfs 0 _ rfl
 have q1:=hfs 1 _ rfl
 have q2:=hfs 2 _ rfl
 have q3:=hfs 3 _ rfl
 have hxl:xs.length = 4:=by assumption
 obtain ⟨y0,y1,y2,y3,rfl⟩:∃ y0 y1 y2 y3,xs = [y0,y1,y2,y3]:=by
  match xs,hxl with
  | [y0,y1,y2,y3],_ => exact ⟨y0,y1,y2,y3,rfl⟩
 have e0:DataW.trod enc Tryz.prog w 0 (fun _ => true) true m1 2 [c0] = some y0:=q0
 have e1:DataW.trod enc Tryz.prog w 0 (fun _ => true) true m1 2 [c1] = some y1:=q1
 have e2:DataW.trod enc Tryz.prog w 0 (fun _ => true) true m1 26 [c2,c3] = some y2:=q2
 have e3:DataW.trod enc Tryz.prog w 0 (fun _ => true) true m1 79 [c4] = some y3:=q3
 obtain ⟨k0,h0,_,w0⟩:=DataW.trod_int Tryz.underlying2 e0
 obtain ⟨k1,h1,_,w1⟩:=DataW.trod_int Tryz.underlying2 e1
 obtain ⟨zs,m2,_,_,_,hzl,hgs⟩:=DataW.trod_struct Tryz.underlying26 e2
 have p0:=hgs 0 _ rfl
 have p1:=hgs 1 _ rfl
 have hzl:zs.length = 2:=by assumption
 obtain ⟨z0,z1,rfl⟩:∃ z0 z1,zs = [z0,z1]:=by
  match zs,hzl with
  | [z0,z1],_ => exact ⟨z0,z1,rfl⟩
 have f0:DataW.trod enc Tryz.prog w 0 (fun _ => true) true m2 3 [c2] = some z0:=p0
 have f1:DataW.trod enc Tryz.prog w 0 (fun _ => true) true m2 24 [c3] = some z1:=p1
 obtain ⟨k2,h2,_,w2⟩:=DataW.trod_int Tryz.underlying3 f0
 obtain ⟨l,hl1,hl2⟩:=open_nodes m2 c3 z1 f1
 obtain ⟨st,hst⟩:=open_stateRow m1 c4 y3 e3
 simp only [List.cons.injEq,and_true] at h0 h1 h2
 subst h0 h1 h2
 have r2:=wf_i64r w2
 obtain ⟨_,_,_,hs1,hs2⟩:=hst.slice
 exact ⟨⟨k0,k1,⟨k2,l⟩,st⟩,⟨c3,c4,rfl,NodesIn.of_at hl1,hst⟩,wf_i64r w0,wf_i64r w1,⟨r2.1,r2.2,hl2⟩,by unfold maxLen at hs2; show st.length ≤ _; omega⟩
end
end
end Go.Proofs.YtpkijdkoiecpiaaGreatDoor
