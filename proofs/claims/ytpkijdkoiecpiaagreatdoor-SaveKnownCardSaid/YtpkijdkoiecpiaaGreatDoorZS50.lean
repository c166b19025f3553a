/-
  Parts of the proof: HM.
-/
import Derived.Test.YtpkijdkoiecpiaaGreatDoorZS46
namespace Go.Proofs.YtpkijdkoiecpiaaGreatDoor
open Go.RowKit
set_option linter.unusedVariables false
set_option linter.unusedSimpArgs false
theorem SvIn.nodes {w:World} {P:Nat → Prop} {x:Sv} {b0 b1 b2 nv sv:Value} (h:SvIn w P (.agg #[b0,b1,b2,nv,sv]) x):NodesIn w P x.job.nodes nv:=by
 obtain ⟨nv',sv',e,hn,hs⟩:=h
 unfold svC at e
 simp only [Value.agg.injEq,Array.mk.injEq,List.cons.injEq,and_true] at e
 obtain ⟨_,_,_,rfl,rfl⟩:=e
 exact hn
set_option maxRecDepth 100000 in
set_option maxHeartbeats 4000000 in
theorem saKnown_c (w:World) (h:Env w):Calls Tryz.prog 8 #[] w fun e w' => e = .returned (.bool true) ∧ Below w.heap.size w w':=by
 have HF:Hid (∀ W,Below w.heap.size w W → _):=fun W (hb:Below w.heap.size w W) => first_c W (h.keep hb)
 have HWK:Hid (∀ W,Below w.heap.size w W → _):=fun W (hb:Below w.heap.size w W) => works23_c W (h.keep hb)
 have HTK:Hid (Calls Tryz.prog 41 #[.string { data:=#[] }] w fun e w' => ∃ a cap sa scap,e = .returned (.tuple #[.agg #[.int .i64 0, .int .i64 0, .int .i64 0, .slice a 0 cap, .slice sa 0 scap], .int .i64 230]) ∧ Below w.heap.size w w'):=by
  have:=SvTake_c { data:=#[] } (by decide) w
  rw [none_take] at this
  refine this.mono ?_
  rintro e w' ⟨⟨v,rfl,hv⟩,hb⟩
  obtain ⟨a,cap,sa,scap,rfl⟩:=hv.slices
  exact ⟨a,cap,sa,scap,rfl,hb⟩
 have HPT:Hid (∀ W a c,NodesIn W (· < W.heap.size) sumsJ.nodes (.slice a 3 c) → Calls Tryz.prog 42 #[.agg #[.int .i64 0, .int .i64 0, .int .i64 2, .slice a 3 c, .slice none 0 0]] W fun e w' => e = .returned (.tuple #[.string (bstr []), .int .i64 2]) ∧ Below W.heap.size W w'):=fun W a c hn => by
  have:=SvPut_c badSv bad_ok ⟨by decide,by unfold badSv; simp⟩ (.agg #[.int .i64 0, .int .i64 0, .int .i64 2, .slice a 3 c, .slice none 0 0]) W ⟨_,_,rfl,hn.toAt (fun _ k => k),StaRd.nil _ _⟩
  rw [bad_put] at this
  exact this
 have HRN:Hid (∀ W,Calls Tryz.prog 44 #[.pointer none] W fun e w' => ∃ a cap sa scap,e = .returned (.tuple #[.agg #[.int .i64 0, .int .i64 0, .int .i64 0, .slice a 0 cap, .slice sa 0 scap], .int .i64 1]) ∧ Below W.heap.size W w'):=fun W => by
  refine (SvRead_nil W).mono ?_
  rintro e w' ⟨⟨v,rfl,hv⟩,hb⟩
  obtain ⟨a,cap,sa,scap,rfl⟩:=hv.slices
  exact ⟨a,cap,sa,scap,rfl,hb⟩
 have HSM:Hid (∀ W v u,SvAt W v firstSv → SvAt W u firstSv → Calls Tryz.prog 47 #[v,u] W fun e w' => e = .returned (.bool true) ∧ Below W.heap.size W w'):=fun W v u hv hu => by
  have:=SvSame_c firstSv firstSv v u W hv hu
  rw [Sv.sameB_refl] at this
  exact this
 have hfd:∀ (a:Option Addr) (c:Nat) (w:World),(Instr.field 81 (.agg #[.int .i64 1, .int .i64 3, .int .i64 2, .slice a 3 c, .slice none 0 0]) 2).run Tryz.prog w = .ok (.agg #[.int .i64 2, .slice a 3 c]) w:=fun _ _ _ => by kernel_rfl
 clear h
 go_enter Tryz.func8,Tryz.ntmps8
 go_wp2_with (first
  | (go_at_call 41; refine HTK.out.mono ?_; rintro e w1 ⟨a1,cap1,sa1,scap1,rfl,b1⟩; have B1:=Lib.hid (b1.alloc b1.size (.cells #[.int .i64 0, .int .i64 0, .int .i64 0, .slice a1 0 cap1, .slice sa1 0 scap1] 81)); clear b1)
  | (go_at_call 43; refine (HF.out _ B1.out).mono ?_; rintro e w2 ⟨a2,c2,rfl,v2,b2⟩; have B2:=Lib.hid (B1.out.trans (b2.mono B1.out.size)); have V2:=Lib.hid (v2.nodes.mono (fun _ k => k.2)); clear B1 v2 b2)
  | (go_at_call 42; refine (HPT.out _ _ _ V2.out).mono ?_; rintro e w3 ⟨rfl,b3⟩; have B3:=Lib.hid (B2.out.trans (b3.mono B2.out.size)); clear B2 V2 b3)
  | (go_at_call 44; refine (HRN.out _).mono ?_; rintro e w4 ⟨a4,cap4,sa4,scap4,rfl,b4⟩; have c4:=B3.out.trans (b4.mono B3.out.size); have B4:=Lib.hid (c4.alloc c4.size (.cells #[.int .i64 0, .int .i64 0, .int .i64 0, .slice a4 0 cap4, .slice sa4 0 scap4] 81)); clear B3 b4 c4)
  | (go_at_call 45; refine (HWK.out _ B4.out).mono ?_; rintro e w5 ⟨rfl,b5⟩; have B5:=Lib.hid (B4.out.trans (b5.mono B4.out.size)); clear B4 b5)
  | (go_at_call 43; refine (HF.out _ B5.out).mono ?_; rintro e w6 ⟨a6,c6,rfl,v6,b6⟩; have B6:=Lib.hid (B5.out.trans (b6.mono B5.out.size)); clear B5 v6 b6)
  | (go_at_call 46; refine (SvWrite_nil _ _ _ rfl).mono ?_; rintro e w7 ⟨rfl,b7⟩; have B7:=Lib.hid (B6.out.trans (b7.mono B6.out.size)); clear B6 b7)
  | (go_at_call 43; refine (HF.out _ B7.out).mono ?_; rintro e w8 ⟨a8,c8,rfl,v8,b8⟩; have B8:=Lib.hid (B7.out.trans (b8.mono B7.out.size)); have V8:=Lib.hid (v8.at_ (fun _ k => k.2)); clear B7 v8 b8)
  | (go_at_call 43; refine (HF.out _ B8.out).mono ?_; rintro e w9 ⟨a9,c9,rfl,v9,b9⟩; have B9:=Lib.hid (B8.out.trans (b9.mono B8.out.size)); have V9:=Lib.hid (v9.at_ (fun _ k => k.2)); have W8:=Lib.hid (V8.out.below b9); clear B8 V8 v9 b9)
  | (go_at_call 47; refine (HSM.out _ _ _ W8.out V9.out).mono ?_; rintro e w10 ⟨rfl,b10⟩)
  | fail)
 go_ret
 exact ⟨rfl,B9.out.trans (b10.mono B9.out.size)⟩
end Go.Proofs.YtpkijdkoiecpiaaGreatDoor
