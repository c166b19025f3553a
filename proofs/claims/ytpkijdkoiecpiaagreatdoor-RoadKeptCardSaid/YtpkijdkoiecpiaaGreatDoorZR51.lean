/-
  Parts of the proof: RK PN.
-/
import Derived.Deep.DeepAppendWide
import Derived.Deep.AppendLies
import Derived.Deep.Upon
import Derived.ArgAppend
import Derived.Test.YtpkijdkoiecpiaaGreatDoorZR17
import Derived.Test.YtpkijdkoiecpiaaGreatDoorZR33
import Derived.Test.YtpkijdkoiecpiaaGreatDoorZR50
namespace Go.Proofs.YtpkijdkoiecpiaaGreatDoor
open Go.RowKit
set_option linter.unusedVariables false
set_option linter.unusedSimpArgs false
theorem Rdw.Kp.power {d:Dk} {r:Rdw} (h:Rdw.Kp d r) (n:Int) (h0:0 ≤ n) (hn:n ≤ 9223372036854775807):(d.power n).2 = 0 ∧ Rdw.Kp (d.power n).1 r:=by
 have hi:=h.inv.power n hn
 have e:d.power n = ({ d with left:=n },0):=by
  unfold Dk.power
  rw [if_neg (by rw [h.off]; decide),if_neg (by omega)]
 rw [e] at hi ⊢
 exact ⟨rfl,hi,h.off,h.file,h.lg,h.sure,h.now,h.loose,h.ok,h.takes⟩
theorem RoAt.power {w:World} {M P:Nat → Prop} {R L D:Nat} {r:Rdw} {d:Dk} (h:RoAt w M P R L r D d) (n:Int) (hn:n ≤ 9223372036854775807) :
  Calls Tryz.prog 27 #[px D, .int .i64 n] w fun e w' => e = .returned (.int .i64 (d.power n).2) ∧ RoTo w w' M P R L r D (d.power n).1:=by
 obtain ⟨ML,lv,h1,h2,h3,h4,h5⟩:=h.ex
 obtain ⟨MD,lw,g1,g2,g3,g4,g5⟩:=h1.ex
 refine (Power_c w MD D d g1 n hn).mono ?_
 rintro e w' ⟨rfl,hT⟩
 have hs:fl (d.power n).1.now r.lg.file = fl d.now r.lg.file:=by
  unfold Dk.power
  split
  ·rfl
  ·split <;> rfl
 exact ⟨rfl,h.step h1 h2 h3 h4 h5 (h1.step g2 g3 g4 g5 hT hs) h.len⟩
theorem RM.power {w W:World} {n:Nat} {M:Nat → Prop} {R L D:Nat} {r:Rdw} {d:Dk} (h:RM w n M W R L D r d) (k:Int) (hk:k ≤ 9223372036854775807) :
  Calls Tryz.prog 27 #[px D, .int .i64 k] W fun e w' => e = .returned (.int .i64 (d.power k).2) ∧ Fr M W w' ∧ ∃ N,(∀ b,N b → M b ∨ W.heap.size ≤ b) ∧ RM w n N w' R L D r (d.power k).1:=by
 obtain ⟨P,h1,h2⟩:=h.ex
 refine (h1.power k hk).mono ?_
 rintro e w' ⟨rfl,hf,N,hN,hR⟩
 refine ⟨rfl,hf,N,hN,fun b q => ?_,h.hn,Nat.le_trans h.hN hf.size,h.below.trans (hf.below h.below.size (fun k hk e => by have:=h.hM k e; omega)),P,hR,h2⟩
 rcases hN b q with e | e
 ·exact h.hM b e
 ·exact Nat.le_trans h.below.size e
def OwnSts (w W:World) (n:Nat) (v:Value) (l:List St):Prop:=∃ ps:List (St × Value),ps.map Prod.fst = l ∧ W.ownsRow n 29 9 v l.length (rowS ps) ∧ ∀ p ∈ ps,NodesIn W (· < w.heap.size) p.1.job.nodes p.2
namespace OwnSts
variable {w W W':World} {n:Nat} {v:Value} {l:List St}
theorem nil (w W:World) (n:Nat):OwnSts w W n (.slice none 0 0) []:=⟨[],rfl,World.ownsRow_nil _ _ _ _,by simp⟩
theorem keep (h:OwnSts w W n v l) (hw:∀ b,b < w.heap.size → W'.heap[b]? = W.heap[b]?) (hr:∀ b,rowB v b → W'.heap[b]? = W.heap[b]?):OwnSts w W' n v l:=by
 obtain ⟨ps,h1,h2,h3⟩:=h
 exact ⟨ps,h1,ownsRow_keep h2 hr,fun p hp => (h3 p hp).keep (fun _ k => k) hw⟩
theorem at_ (h:OwnSts w W n v l):StsAt W (· < w.heap.size) v l:=by
 obtain ⟨ps,h1,h2,h3⟩:=h
 refine ⟨ps,h1,⟨h2.1, ?_⟩,h3⟩
 rcases h2.2 with h | ⟨g,cap,cur,e,_,h⟩
 ·exact .inl h
 ·exact .inr ⟨g,cap,cur,e,Nat.zero_le _,h⟩
theorem row (h:OwnSts w W n v l):∀ b,rowB v b → n ≤ b ∧ b < W.heap.size:=by
 obtain ⟨ps,h1,h2,h3⟩:=h
 rintro b ⟨o,k,c,rfl⟩
 rcases h2.2 with ⟨e,_⟩ | ⟨g,cap,cur,e,hb,hg,_⟩
 ·exact absurd e (by simp)
 ·simp only [Value.slice.injEq,Option.some.injEq,Addr.mk.injEq] at e
  obtain ⟨⟨rfl,_⟩,_⟩:=e
  exact ⟨hb,(Array.getElem?_eq_some_iff.1 hg).1⟩
theorem own (h:OwnSts w W n v l):∀ b,v.ownBlock = some b → rowB v b:=by
 obtain ⟨ps,h1,h2,h3⟩:=h
 intro b hq
 rcases h2.2 with ⟨rfl,_⟩ | ⟨g,cap,cur,rfl,_⟩
 ·simp [Value.ownBlock] at hq
 ·simp [Value.ownBlock] at hq
  subst hq
  exact ⟨_,_,_,rfl⟩
theorem one {B:Nat} {x:St} {sa:Option Addr} {sc:Nat} (hb:Blk W B 29 (stC x (.slice sa x.job.nodes.length sc))) (hn:n ≤ B) (hx:NodesIn W (· < w.heap.size) x.job.nodes (.slice sa x.job.nodes.length sc)):OwnSts w W n (.slice (some ⟨B,0,none⟩) 1 1) [x]:=by
 refine ⟨[(x, .slice sa x.job.nodes.length sc)],rfl,⟨rfl, .inr ⟨B,1,_,rfl,hn,hb,Nat.le_refl _,by unfold maxLen; omega,rfl,rfl⟩⟩,fun p hp => ?_⟩
 rw [List.mem_singleton.1 hp]
 exact hx
end OwnSts
structure KeptR (w:World) (n R L D p:Nat) (av:Value) (M:Nat → Prop) (r:Rdw) (d:Dk) (W:World):Prop where
 rm:RM w n M W R L D r d
 kp:Rdw.Kp d r
 phase:p = r.phase
 own:OwnSts w W n av r.l
 dis:∀ b,rowB av b → ¬ M b
structure KeptE (w:World) (n D:Nat) (A Bs:List St) (p:Nat) (av bv:Value) (W:World):Prop where
 below:Below w.heap.size w W
 hn:w.heap.size ≤ n
 own:OwnSts w W n av A
 one:OwnSts w W n bv Bs
 shape:Bs = [] ∧ bv = .slice none 0 0 ∨ ∃ x B,Bs = [x] ∧ bv = .slice (some ⟨B,0,none⟩) 1 1
 ex:∃ M d,DkAt W M D d ∧ d.loose.length ≤ 1 ∧ (∀ b,M b → w.heap.size ≤ b ∧ ¬ rowB av b ∧ ¬ rowB bv b) ∧ ∀ c b,∃ r2,(Rdw.open (d.crash c b)).2 = (some r2,0) ∧ (r2.l = A ∧ r2.phase = p ∨ ∃ x,Bs = [x] ∧ r2.l = A ++ [x])
section
variable {w W W' W3:World} {n R L D p:Nat} {av:Value} {M N:Nat → Prop} {r r2:Rdw} {d d2:Dk} {x:St} {sa:Option Addr} {sc:Nat}
theorem KeptR.below (h:KeptR w n R L D p av M r d W) (hb:Below W.heap.size W W'):KeptR w n R L D p av M r d W' :=
 ⟨h.rm.keep hb,h.kp,h.phase,h.own.keep (fun b q => hb.block b (Nat.lt_of_lt_of_le q h.rm.below.size)) (fun b q => hb.block b (h.own.row b q).2),h.dis⟩
theorem KeptR.start (h:RM w n M W R L D r d) (hk:Rdw.Kp d r) (hl:r.l = []) (hp:p = r.phase):KeptR w n R L D p (.slice none 0 0) M r d W :=
 ⟨h,hk,hp,by rw [hl]; exact OwnSts.nil _ _ _,fun b q => by obtain ⟨o,k,c,e⟩:=q; simp at e⟩
theorem KeptR.sts (h:KeptR w n R L D p av M r d W) (hf:Fr M W W'):OwnSts w W' n av r.l :=
 h.own.keep (fun b q => hf.block b (Nat.lt_of_lt_of_le q h.rm.below.size) (fun e => by have:=h.rm.hM b e; omega)) (fun b q => hf.block b (h.own.row b q).2 (h.dis b q))
theorem KeptR.disN (h:KeptR w n R L D p av M r d W) (hN:∀ b,N b → M b ∨ W.heap.size ≤ b):∀ b,rowB av b → ¬ N b:=fun b q e => by
 rcases hN b e with e | e
 ·exact h.dis b q e
 ·have:=(h.own.row b q).2; omega
theorem KeptR.skip (h:KeptR w n R L D p av M r d W) (hf:Fr M W W') (hN:∀ b,N b → M b ∨ W.heap.size ≤ b) (hr:RM w n N W' R L D r d):KeptR w n R L D p av N r d W' :=
 ⟨hr,h.kp,h.phase,h.sts hf,h.disN hN⟩
theorem KeptR.more {q cap:Nat} {ps:List (St × Value)} (h:KeptR w n R L D p av M r d W) (hN:∀ b,N b → M b ∨ W.heap.size ≤ b) (hr:RM w n N W' R L D r2 d2) (hk:Rdw.Kp d2 r2) (hl:r2.l = r.l ++ [x]) (hs:W.heap.size ≤ W'.heap.size)
  (hp1:ps.map Prod.fst = r.l) (hpn:∀ p ∈ ps,NodesIn W' (· < w.heap.size) p.1.job.nodes p.2) (hx:NodesIn W' (· < w.heap.size) x.job.nodes (.slice sa x.job.nodes.length sc))
  (hg:W'.grownBy W3 av.ownBlock) (hat:av.ownBlock = some q ∨ q = W'.heap.size) (hlt:q < W3.heap.size) (hown:W3.ownsRow n 29 9 (.slice (some ⟨q,0,none⟩) (r.l.length + 1) cap) (r.l.length + 1) (rowS ps ++ (stC x (.slice sa x.job.nodes.length sc)).toList)) :
  KeptR w n R L D r2.phase (.slice (some ⟨q,0,none⟩) (r.l.length + 1) cap) N r2 d2 W3:=by
 have hrow:∀ b,av.ownBlock = some b → rowB av b:=h.own.own
 have hB:∀ b,b < W'.heap.size → ¬ rowB av b → W3.heap[b]? = W'.heap[b]? := fun b hb hn => hg.block b hb (fun e => hn (hrow b e.symm))
 have hww:∀ b,b < w.heap.size → W3.heap[b]? = W'.heap[b]? := fun b q => hB b (Nat.lt_of_lt_of_le q hr.below.size) (fun e => by have:=(h.own.row b e).1; have:=h.rm.hn; omega)
 have hF:Fr (rowB av) W' W3:=⟨hg.os,hg.tape,hg.output,hg.size,hB⟩
 refine ⟨hr.fr hF (fun b q => ⟨(h.own.row b q).1,h.disN hN b q⟩),hk,rfl,⟨ps ++ [(x, .slice sa x.job.nodes.length sc)],by rw [List.map_append,hp1,hl]; rfl,by rw [rowS_snoc,hl,List.length_append]; exact hown,fun z hz => ?_⟩, ?_⟩
 ·rcases List.mem_append.1 hz with hz | hz
  ·exact (hpn z hz).keep (fun _ k => k) hww
  ·rw [List.mem_singleton.1 hz]; exact hx.keep (fun _ k => k) hww
 ·rintro b ⟨o,k,c,e⟩ hb
  simp only [Value.slice.injEq,Option.some.injEq,Addr.mk.injEq] at e
  obtain ⟨⟨rfl,_⟩,_⟩:=e
  rcases hat with hat | hat
  ·exact h.disN hN q (hrow q hat) hb
  ·have:=(hr.lt q hb).2; omega
theorem KeptR.fin (h:KeptR w n R L D p av M r d W):KeptE w n D r.l [] p av (.slice none 0 0) W:=by
 obtain ⟨P,h1,_⟩:=h.rm.ex
 obtain ⟨MD,h2,h3⟩:=h1.disk
 refine ⟨h.rm.below,h.rm.hn,h.own,OwnSts.nil _ _ _, .inl ⟨rfl,rfl⟩,MD,d,h2,by rw [h.kp.loose]; exact Nat.zero_le _,fun b q => ⟨h.rm.hM b (h3 b q),fun e => h.dis b e (h3 b q),fun e => by obtain ⟨o,k,c,e⟩:=e; simp at e⟩,fun c b => ?_⟩
 obtain ⟨r2,e1,e2,e3⟩:=h.kp.crash c b
 exact ⟨r2,e1, .inl ⟨e2,by rw [e3,h.phase]⟩⟩
theorem KeptR.off {B:Nat} (h:KeptR w n R L D p av M r d W) (hf:Fr M W W') (hN:∀ b,N b → M b ∨ W.heap.size ≤ b) (hr:RM w n N W' R L D r2 d2) (hg:Rdw.Gone d2 r x) (hld:d2.loose.length ≤ 1) (hW:Below W'.heap.size W' W3) (hB:W'.heap.size ≤ B) (hb:Blk W3 B 29 (stC x (.slice sa x.job.nodes.length sc))) (hx:NodesIn W' (· < w.heap.size) x.job.nodes (.slice sa x.job.nodes.length sc)) :
  KeptE w n D r.l [x] p av (.slice (some ⟨B,0,none⟩) 1 1) W3:=by
 obtain ⟨P,h1,_⟩:=hr.ex
 obtain ⟨MD,h2,h3⟩:=h1.disk
 have hlw:=hr.below.size
 have hww:∀ b,b < w.heap.size → W3.heap[b]? = W'.heap[b]? := fun b q => hW.block b (by omega)
 refine ⟨hr.below.trans (hW.mono hlw),h.rm.hn,(h.sts hf).keep hww (fun b q => hW.block b (by have:=(h.own.row b q).2; have:=hf.size; omega)),OwnSts.one hb (Nat.le_trans hr.hN hB) (hx.keep (fun _ k => k) hww), .inr ⟨x,B,rfl,rfl⟩,MD,d2,h2.below hW,hld,fun b q => ⟨hr.hM b (h3 b q),fun e => h.disN hN b e (h3 b q), ?_⟩,fun c b => ?_⟩
 ·rintro ⟨o,k,c,e⟩
  simp only [Value.slice.injEq,Option.some.injEq,Addr.mk.injEq] at e
  obtain ⟨⟨rfl,_⟩,_⟩:=e
  have:=h2.lt B q; omega
 ·obtain ⟨r3,e1,e2⟩:=hg.crash c b
  refine ⟨r3,e1, ?_⟩
  rcases e2 with ⟨e2,e3⟩ | e2
  ·exact .inl ⟨e2,by rw [e3,h.phase]⟩
  ·exact .inr ⟨x,rfl,e2⟩
end
theorem Rdw.Gone.loose1 {d:Dk} {r:Rdw} {x:St} (h:Rdw.Gone d r x):d.loose.length ≤ 1:=by
 rcases h.loose with e | e <;> rw [e]
 ·exact Nat.zero_le _
 ·exact Nat.le_refl _
theorem kept_ends {A Bs:List St} {p:Nat} {r2:Rdw} (h:r2.l = A ∧ r2.phase = p ∨ ∃ x,Bs = [x] ∧ r2.l = A ++ [x]):A.length ≤ r2.l.length ∧ r2.l.length ≤ A.length + Bs.length ∧ (r2.l.length = A.length → r2.phase = p) ∧ ∃ t,A ++ Bs = r2.l ++ t:=by
 rcases h with ⟨rfl,h2⟩ | ⟨x,rfl,h2⟩
 ·exact ⟨Nat.le_refl _,Nat.le_add_right _ _,fun _ => h2,Bs,rfl⟩
 ·rw [h2]
  exact ⟨by simp,by simp,fun e => by simp at e,[],by simp⟩
theorem kept_over {w wc w7 w8:World} {n:Nat} {M1 N7:Nat → Prop} {av:Value} {A:List St} (hb:Below w.heap.size w wc) (hM:∀ b,M1 b → w.heap.size ≤ b ∧ ¬ rowB av b) (ho:OwnSts w wc n av A) (hf:Fr M1 wc w7) (hN:∀ b,N7 b → M1 b ∨ wc.heap.size ≤ b) (hf2:Fr N7 w7 w8):Below w.heap.size w w8 ∧ OwnSts w w8 n av A:=by
 have h1:=hb.size
 have h2:=hf.size
 have hk:∀ b,b < wc.heap.size → ¬ M1 b → w8.heap[b]? = wc.heap[b]? := fun b q hm => (hf2.block b (by omega) (fun e => by rcases hN b e with e | e; exact hm e; omega)).trans (hf.block b q hm)
 refine ⟨⟨hf2.os.trans (hf.os.trans hb.os),hf2.tape.trans (hf.tape.trans hb.tape),hf2.output.trans (hf.output.trans hb.output),by have:=hf2.size; omega,fun b q => (hk b (by omega) (fun e => by have:=(hM b e).1; omega)).trans (hb.block b q)⟩,ho.keep (fun b q => hk b (by omega) (fun e => by have:=(hM b e).1; omega)) (fun b q => hk b (ho.row b q).2 (fun e => (hM b e).2 q))⟩
theorem wpList_append_none {P:Program} (w:World) {ops:Array Oper} {rest:List Oper} {o:Oper} {a:Act} {Q:Exit → Act → World → Prop} (hg:o.guard = none) (s x:Operand) (t:TypeId) (hop:o.op = Op.call { callee:=Callee.builtin Builtin.append,args:=#[s,x],argTypes:=#[t,t] })
  (e:TypeId) (i:TypeInfo) (h1:P.underlying t = some (.slice e)) (h2:P.info? e = some i) (base:Option Addr) (n cap c:Nat) (hs:a.eval s = .slice base n cap) (hle:n ≤ cap) (hx:a.eval x = .slice none 0 c)
  (hK:wpList P ops Q rest (a.put o.dst (.slice base n cap)) w):wpList P ops Q (o :: rest) a w:=by
 refine wpList_plain hg fun K hK' => ?_
 have hrun:=run_append_nothing (P:=P) w t t o.type e i h1 h2 base n cap hle (.slice none 0 c) (Src.ofNil w h1 c)
 unfold Oper.wp
 simp [execOp,hop,resolve,invoke,builtin,hs,hx,hrun,Result.andThen]
 exact hK' _ _ hK
theorem OwnSts.rd {w W:World} {n:Nat} {av:Value} {A:List St} {a:Option Addr} {c k:Nat} (h:OwnSts w W n av A) (e:av = .slice a A.length c) (hk:A.length ≤ k) (hk2:k ≤ maxLen) (hw:w.heap.size ≤ W.heap.size):StsRd W (· < W.heap.size) (.slice a A.length k) A:=by
 refine ⟨a,k,rfl,hk,hk2, ?_⟩
 by_cases h0:A.length = 0
 ·exact .inl h0
 ·obtain ⟨g,cap,sv,hv,_⟩:=h.at_.cells 0 (by omega)
  rw [e] at hv
  simp only [Value.slice.injEq,true_and] at hv
  obtain ⟨rfl,rfl⟩:=hv
  refine .inr ⟨g,0,rfl,(h.row g (by rw [e]; exact ⟨_,_,_,rfl⟩)).2,fun j hj => ?_⟩
  obtain ⟨g2,cap2,sv2,hv2,hn2,hc2⟩:=h.at_.cells j hj
  rw [e] at hv2
  simp only [Value.slice.injEq,Option.some.injEq,Addr.mk.injEq,true_and,and_true] at hv2
  obtain ⟨rfl,rfl⟩:=hv2
  exact ⟨sv2,hn2.mono (fun b q => Nat.lt_of_lt_of_le q hw),fun i hi => by rw [Nat.zero_add]; exact hc2 i hi⟩
theorem own_rd {W:World} {base:Nat} {v:Value} {A:List St} {ps:List (St × Value)} {P:Nat → Prop} (hp:ps.map Prod.fst = A) (h:W.ownsRow base 29 9 v A.length (rowS ps)) (hn:∀ p ∈ ps,NodesIn W P p.1.job.nodes p.2) (hP:∀ b,P b → b < W.heap.size):StsRd W (· < W.heap.size) v A:=by
 have hs:StsAt W P v A:=⟨ps,hp,⟨h.1,by
  rcases h.2 with h | ⟨g,cap,cur,e,_,h⟩
  ·exact .inl h
  ·exact .inr ⟨g,cap,cur,e,Nat.zero_le _,h⟩⟩,hn⟩
 obtain ⟨a,c,rfl,h1,h2⟩:=hs.slice
 refine ⟨a,c,rfl,h1,h2, ?_⟩
 by_cases h0:A.length = 0
 ·exact .inl h0
 ·rcases h.2 with ⟨_,e⟩ | ⟨g,cap,cur,e,_,hg,_⟩
  ·exact absurd e h0
  ·simp only [Value.slice.injEq,true_and] at e
   obtain ⟨rfl,rfl⟩:=e
   refine .inr ⟨g,0,rfl,(Array.getElem?_eq_some_iff.1 hg).1,fun j hj => ?_⟩
   obtain ⟨g2,cap2,sv2,hv2,hn2,hc2⟩:=hs.cells j hj
   simp only [Value.slice.injEq,Option.some.injEq,Addr.mk.injEq,true_and,and_true] at hv2
   obtain ⟨rfl,rfl⟩:=hv2
   exact ⟨sv2,hn2.mono hP,fun i hi => by rw [Nat.zero_add]; exact hc2 i hi⟩
theorem OwnSts.form {w W:World} {n:Nat} {A:List St} {a:Option Addr} {k c:Nat} (h:OwnSts w W n (.slice a k c) A):(a = none ∧ A = [] ∧ c = 0) ∨ ∃ g,a = some ⟨g,0,none⟩:=by
 obtain ⟨ps,h1,h2,h3⟩:=h
 rcases h2.2 with ⟨e,h0⟩ | ⟨g,cap,cur,e,_⟩
 ·simp only [Value.slice.injEq] at e
  exact .inl ⟨e.1,List.eq_nil_of_length_eq_zero h0,e.2.2⟩
 ·simp only [Value.slice.injEq] at e
  exact .inr ⟨g,e.1⟩
theorem rowCells {W:World} {base:Nat} {e:TypeId} {size n g cap:Nat} {xs:List Value} (h:W.ownsRow base e size (.slice (some ⟨g,0,none⟩) n cap) n xs):∀ j u,xs[j]? = some u → W.cell? ((⟨g,0,none⟩:Addr).add j) = some u:=by
 intro j u hu
 have hj:j < n * size:=by rw [← h.1]; exact (List.getElem?_eq_some_iff.1 hu).1
 rcases h.2 with ⟨e,_⟩ | ⟨g',cap',cur,e,_,hg,_,_,_,ht⟩
 ·simp at e
 ·simp only [Value.slice.injEq,Option.some.injEq,Addr.mk.injEq,true_and,and_true] at e
  obtain ⟨rfl,rfl⟩:=e
  rw [addr_add,Nat.zero_add,cell_of_row W g j cur _ (0,0) hg, ← hu, ← ht,List.getElem?_take,if_pos hj]
  simp
theorem rowS_one {W:World} {P:Nat → Prop}:∀ (ps:List (St × Value)),(∀ p ∈ ps,NodesIn W P p.1.job.nodes p.2) → ∀ v ∈ rowS ps,v.oneCell' = true
 | [],_,v,hv => absurd hv (by simp [rowS])
 | p :: ps,h,v,hv => by
  rw [rowS_cons] at hv
  rcases List.mem_append.1 hv with hv | hv
  ·obtain ⟨a,c,e,_⟩:=(h p (by simp)).slice
   rw [e] at hv
   exact stC_one p.1 a _ c v hv
  ·exact rowS_one ps (fun q hq => h q (by simp [hq])) v hv
set_option maxRecDepth 100000 in
set_option maxHeartbeats 8000000 in
theorem roKept_w (w:World) (l:List St) (v:Value) (g:StsRd w (· < w.heap.size) v l) (kk:∀ x ∈ l,x.Ok) (hbl:l.length * 88 ≤ 140737488355328) (pw ch by':Int) (wp:(Lit.int .i64 pw).wf = true) (wc':(Lit.int .i64 ch).wf = true) (wb:(Lit.int .i64 by').wf = true) (hE:Env w) :
  Calls Tryz.prog 6 #[v, .int .i64 pw, .int .i64 ch, .int .i64 by'] w fun e w' => e = .returned (.bool true) ∧ Below w.heap.size w w':=by
 have hpw:=(wf_i64r wp).2
 clear wp wc' wb
 obtain ⟨a,cap,rfl,hcap,hmx⟩:=g.slice
 obtain ⟨N,hn⟩:∃ N,l.length = N:=⟨_,rfl⟩
 rw [hn] at hcap ⊢
 rw [hn] at hbl
 have HNL:Hid (N ≤ 1599289640401):=by show _ ≤ _; omega
 have HN:=Lib.hid hn
 have HG:=Lib.hid g
 have HKK:=Lib.hid kk
 have HPW:=Lib.hid hpw
 have HWK:Hid (∀ W,Below w.heap.size w W → Calls Tryz.prog 14 #[] W fun e w' => e = .returned (.bool true) ∧ Below W.heap.size W w'):=fun W hb => roWorks_c W (hE.keep hb)
 have HNW:Hid (∀ W,Calls Tryz.prog 15 #[.int .i64 4194304] W fun e w' => e = .returned (.tuple #[px W.heap.size, .int .i64 0]) ∧ Below W.heap.size W w' ∧ DkAt w' (· = W.heap.size) W.heap.size (Dk.new 4194304)):=fun W => newDk_c 4194304 (by decide) (by decide) W
 have HOP:=Lib.hid (fun W D h => openDk_c 4194304 W D h)
 have hlN:(N:Int) ≤ 9223372036854775807:=by have:=HNL.out; omega
 unfold px at HNW HOP
 clear hcap hmx hn g kk hE hpw
 go_enter Tryz.func6,Tryz.ntmps6
 go_wp2_with fail
 go_loopw [9,28] (fun s q wr => ∃ k:Nat,q = .int .i64 (k:Int) ∧ k ≤ N ∧ OpsR w l k s wr) (fun _ q _ => N - (intOf q).toNat)
 case atStart => exact ⟨0,rfl,Nat.zero_le _,OpsR.start w l⟩
 case round =>
  obtain ⟨k,rfl,hk,hO⟩:=hrel
  by_cases hlt:k < N
  ·have hkl:k < l.length:=by have:=HN.out; omega
   obtain ⟨b,off,cp,sv,e1,hb,hnd,hc⟩:=(HG.out.keep (Q:=(· < w.heap.size)) (fun _ k => k) (fun b hb => hO.below.block b hb)).at_ k hkl
   rw [HN.out] at e1
   simp only [Value.slice.injEq,true_and] at e1
   obtain ⟨rfl,rfl⟩:=e1
   obtain ⟨sa,sc,rfl,_,_⟩:=hnd.slice
   obtain ⟨ps,hp1,hp2,hp3⟩:=hO.ex
   have hsn:=fun (W2 w3:World) (v':Value) => OpsR.snoc (W2:=W2) (w3:=w3) (v':=v') hO.below hkl hp1 hp2 hp3 hnd
   have hbw:=hO.below.size
   generalize l[k]'hkl = x at *
   unfold stC at hc
   have c0:=hc 0 (by omega)
   have c1:=hc 1 (by omega)
   have c2:=hc 2 (by omega)
   have c3:=hc 3 (by omega)
   have c4:=hc 4 (by omega)
   have c5:=hc 5 (by omega)
   have c6:=hc 6 (by omega)
   have c7:=hc 7 (by omega)
   have c8:=hc 8 (by omega)
   rw [Nat.add_zero] at c0
   have hkI:(k:Int) < (N:Int):=by omega
   have hbx:=Blk.new wr #[.int .u8 (x.kind:Int), .int .i64 x.n, .int .i64 x.cut, .int .i64 x.too, .int .i64 x.job.par, .slice sa x.job.nodes.length sc, .int .i64 x.part, .int .i64 x.at_, .int .i64 x.why] 29
   have hB2:=(Below.refl wr.heap.size wr).alloc (Nat.le_refl _) (.cells #[.int .u8 (x.kind:Int), .int .i64 x.n, .int .i64 x.cut, .int .i64 x.too, .int .i64 x.job.par, .slice sa x.job.nodes.length sc, .int .i64 x.part, .int .i64 x.at_, .int .i64 x.why] 29)
   have hA2:=hp2.alloc (.cells #[.int .u8 (x.kind:Int), .int .i64 x.n, .int .i64 x.cut, .int .i64 x.too, .int .i64 x.job.par, .slice sa x.job.nodes.length sc, .int .i64 x.part, .int .i64 x.at_, .int .i64 x.why] 29)
   have HSN:=Lib.hid hsn
   rename_i hy1 hy2
   clear hy1 hy2 hc hnd hp1 hp3 hsn hO hb hp2
   go_upto_region 5 with fail
   generalize World.alloc wr _ = W2 at *
   have x0:=hbx.cell 0
   have x1:=hbx.cell 1
   have x2:=hbx.cell 2
   have x3:=hbx.cell 3
   have x4:=hbx.cell 4
   have x5:=hbx.cell 5
   have x6:=hbx.cell 6
   have x7:=hbx.cell 7
   have x8:=hbx.cell 8
   obtain ⟨i0,hi,hz0,hz1,hzb⟩:=info_parts info_op
   have HA2:=Lib.hid hA2
   have HB2:=Lib.hid hB2
   have hNL:=HNL.out
   have hW2:w.heap.size ≤ W2.heap.size:=Nat.le_trans hbw HB2.out.size
   clear c0 c1 c2 c3 c4 c5 c6 c7 c8 hA2 hB2 hbx
   go_wp2_with (at_builtin; refine wpList_append_own_wide _ rfl _ _ 23 rfl w.heap.size 31 i0 (.agg #[.int .i64 0, .int .i64 0, .int .i64 0, .int .u8 0, .int .i64 0, .int .i64 0, .int .i64 0, .int .i64 0, .slice none 0 0, .int .i64 0, .int .i64 0, .int .i64 0]) 12 112 Tryz.underlying23 hi hz0 hz1 hzb rfl (by decide) u9 k (rowO ps) rfl (HA2.out.alloc _) ⟨W2.heap.size,0,none⟩ 1 1 [.int .i64 0, .int .i64 0, .int .i64 0, .int .u8 (x.kind:Int), .int .i64 x.n, .int .i64 x.cut, .int .i64 x.too, .int .i64 x.job.par, .slice sa x.job.nodes.length sc, .int .i64 x.part, .int .i64 x.at_, .int .i64 x.why] rfl rfl (World.news_of_block (heap_alloc_new W2 _)) (opC_one x sa sc) (by unfold maxLen; omega) (by omega) (by simp; omega) ?_; intro v' w3 hown3 hgrow3 _)
   go_roundw
   case rel => exact ⟨k + 1,by go_num,by omega,HSN.out _ w3 v' (HB2.out.alloc HB2.out.size _) hgrow3 hown3⟩
   case measure => simp [intOf]; omega
  ·have hkN:N = k:=by omega
   subst hkN
   have hOR:=hO
   rw [← HN.out] at hO
   have hrd:=hO.rd
   have HH:=Lib.hid (opHeavy_c (l.map opOf) _ wr _ hrd (fun _ h => h))
   have HOB:=Lib.hid hO.below
   clear hrd hO hOR hk hlt
   cases hh:heavyOps (l.map opOf)
   ·rw [hh] at HH
    have HHF:=Lib.hid hh
    clear hh
    by_cases hp:pw < 0
    ·have hpd:decide (pw < 0) = true:=decide_eq_true hp
     clear hp
     go_wp2_with (first
      | (go_at_call 13; refine HH.out.mono ?_; rintro e w3 ⟨rfl,hb3⟩)
      | (go_at_call 14; refine (HWK.out w3 (HOB.out.trans (hb3.mono HOB.out.size))).mono ?_; rintro e w4 ⟨rfl,hb4⟩)
      | fail)
     go_ret
     exact ⟨rfl,(HOB.out.trans (hb3.mono HOB.out.size)).trans (hb4.mono (HOB.out.trans (hb3.mono HOB.out.size)).size)⟩
    ·have hpd:decide (pw < 0) = false:=decide_eq_false hp
     have HPG:Hid (0 ≤ pw):=by show _ ≤ _; omega
     clear hp
     go_upto_region 11 with (first
      | (go_at_call 13; refine HH.out.mono ?_; rintro e w3 ⟨rfl,hb3⟩; have hB3:=HOB.out.trans (hb3.mono HOB.out.size))
      | (go_at_call 15; refine (HNW.out _).mono ?_; rintro e w4 ⟨rfl,hb4,hd4⟩; have hB4:=hB3.trans (hb4.mono hB3.size))
      | (go_at_call 16; refine (HOP.out _ _ hd4).mono ?_; rintro e w5 ⟨R,L,M,P,rfl,hf5,hR5,hM5⟩; have HRM:=Lib.hid (RM.opened hB4 (M:=(· = w3.heap.size)) (fun b q => by rw [q]; exact hB3.size) hf5 hR5 hM5); clear hR5 hf5)
      | fail)
     have hN100:N ≤ 100:=by
      have h1:=HHF.out
      unfold heavyOps at h1
      simp only [Bool.or_eq_false_iff,decide_eq_false_iff_not,List.length_map] at h1
      have h2:=HN.out
      omega
     have H100:=Lib.hid hN100
     have hkp:=(Rdw.Kp.new 4194304 (by decide) (by decide)).power pw HPG.out HPW.out
     have HPC:=Lib.hid (HRM.out.power pw HPW.out)
     rw [hkp.1] at HPC
     have HKP:=Lib.hid hkp.2
     unfold px at HPC
     generalize ((Dk.new 4194304).power pw).1 = d1 at *
     clear hkp hM5 hd4 hb4 hb3 hB3 hB4 HH HNW hN100
     generalize w5.heap.size = n at *
     generalize w3.heap.size = D at *
     go_upto_region 14 with (first | (go_at_call 27; refine HPC.out.mono ?_; rintro e w6 ⟨rfl,hf6,N6,hN6,hR6⟩) | fail)
     have HPH:=Lib.hid hR6.phase_c
     have HK0:=Lib.hid (KeptR.start hR6 HKP.out rfl rfl)
     unfold px at HPH
     clear hR6 hf6 hN6 hpd HPC HKP
     go_upto_block 2 with (first | (go_at_call 17; refine HPH.out.mono ?_; rintro e w7 ⟨rfl,rfl⟩) | fail)
     go_cut [16,17,18] (fun av bv ph wx => ∃ (A Bs:List St) (p:Nat),ph = .int .u8 (p:Int) ∧ A.length ≤ N ∧ KeptE w n D A Bs p av bv wx)
     case first =>
      go_wp2_with fail
      go_loopw [16,17,18,66] (fun av bv ph q wr => ∃ (k p:Nat) (M:Nat → Prop) (r:Rdw) (d:Dk),q = .int .i64 (k:Int) ∧ bv = .slice none 0 0 ∧ ph = .int .u8 (p:Int) ∧ k ≤ N ∧ r.l.length ≤ k ∧ KeptR w n R L D p av M r d wr) (fun _ _ _ q _ => N - (intOf q).toNat)
      case atStart => exact ⟨0,0,_,_,_,rfl,rfl,rfl,Nat.zero_le _,Nat.le_refl _,HK0.out⟩
      case round =>
       obtain ⟨k,p,M1,r,d,rfl,rfl,rfl,hk,hrl,hS⟩:=hrel
       have HS:=Lib.hid hS
       by_cases hlt:k < N
       ·have hkl:k < l.length:=by have:=HN.out; omega
        obtain ⟨b,off,cp,sv,e1,hb,hnd,hc⟩:=(HG.out.keep (Q:=(· < w.heap.size)) (fun _ k => k) (fun b hb => hS.rm.below.block b hb)).at_ k hkl
        rw [HN.out] at e1
        simp only [Value.slice.injEq,true_and] at e1
        obtain ⟨rfl,rfl⟩:=e1
        obtain ⟨sa,sc,rfl,_,_⟩:=hnd.slice
        have hxok:=HKK.out _ (List.getElem_mem hkl)
        generalize l[k]'hkl = x at *
        unfold stC at hc
        have c0:=hc 0 (by omega)
        have c1:=hc 1 (by omega)
        have c2:=hc 2 (by omega)
        have c3:=hc 3 (by omega)
        have c4:=hc 4 (by omega)
        have c5:=hc 5 (by omega)
        have c6:=hc 6 (by omega)
        have c7:=hc 7 (by omega)
        have c8:=hc 8 (by omega)
        rw [Nat.add_zero] at c0
        have hkI:(k:Int) < (N:Int):=by omega
        have hbx:=Blk.new wr #[.int .u8 (x.kind:Int), .int .i64 x.n, .int .i64 x.cut, .int .i64 x.too, .int .i64 x.job.par, .slice sa x.job.nodes.length sc, .int .i64 x.part, .int .i64 x.at_, .int .i64 x.why] 29
        have hB2:=(Below.refl wr.heap.size wr).alloc (Nat.le_refl _) (.cells #[.int .u8 (x.kind:Int), .int .i64 x.n, .int .i64 x.cut, .int .i64 x.too, .int .i64 x.job.par, .slice sa x.job.nodes.length sc, .int .i64 x.part, .int .i64 x.at_, .int .i64 x.why] 29)
        have hS2:=hS.below hB2
        have HPU:=Lib.hid (hS2.rm.put_c x (.agg (stC x (.slice sa x.job.nodes.length sc))) ⟨_,rfl,hnd.keep (fun _ k => k) (fun b q => alloc_old wr _ b (Nat.lt_of_lt_of_le q hS.rm.below.size))⟩ hxok (by rw [hS.kp.loose]; exact Nat.zero_le _) _ rfl)
        have HND:=Lib.hid (hnd.keep (w':=wr.alloc (.cells #[.int .u8 (x.kind:Int), .int .i64 x.n, .int .i64 x.cut, .int .i64 x.too, .int .i64 x.job.par, .slice sa x.job.nodes.length sc, .int .i64 x.part, .int .i64 x.at_, .int .i64 x.why] 29)) (Q:=(· < w.heap.size)) (fun _ k => k) (fun b q => alloc_old wr _ b (Nat.lt_of_lt_of_le q hS.rm.below.size)))
        have hOP:=hS.kp.put x hxok
        have HS2:=Lib.hid hS2
        have HXB:=Lib.hid hbx
        have hwn:n ≤ wr.heap.size:=hS.rm.hN
        have hbl2 : ¬ M1 wr.heap.size:=fun hm => by have:=(hS.rm.lt _ hm).2; omega
        unfold px stC at HPU
        rename_i hy1 hy2
        clear hy1 hy2 hc hnd hS hS2 hb
        go_upto_region 18 with fail
        generalize hBX:wr.heap.size = BX at *
        generalize World.alloc wr _ = W2 at *
        have x0:=hbx.cell 0
        have x1:=hbx.cell 1
        have x2:=hbx.cell 2
        have x3:=hbx.cell 3
        have x4:=hbx.cell 4
        have x5:=hbx.cell 5
        have x6:=hbx.cell 6
        have x7:=hbx.cell 7
        have x8:=hbx.cell 8
        clear c0 c1 c2 c3 c4 c5 c6 c7 c8 hbx
        generalize hq:Rdw.put d r x = q at *
        obtain ⟨d2,r2,qe⟩:=q
        dsimp only at hOP HPU
        rcases hOP with ⟨rfl,ho2,hl2,hp2,hmay,hnx⟩ | ⟨rfl,hgo⟩ | ⟨hq0,hq50,rfl,rfl,_⟩
        ·have HO2:=Lib.hid ho2
         have HL2:=Lib.hid hl2
         have hlr:=HS2.out.own
         obtain ⟨i0,hi,hz0,hz1,hzb⟩:=info_parts info_step
         have HQ:=Lib.hid hq
         clear hq hnx hmay hp2 ho2 hl2 hlr
         go_wp2_with (first
          | (go_at_call 19; refine HPU.out.mono ?_; rintro e w6 ⟨rfl,hf6,N9,hN9,hR6⟩; have hx6:=(hf6.block BX HXB.out.lt hbl2).trans HXB.out; have z0:=Blk.cell hx6 0; have z1:=Blk.cell hx6 1; have z2:=Blk.cell hx6 2; have z3:=Blk.cell hx6 3; have z4:=Blk.cell hx6 4; have z5:=Blk.cell hx6 5; have z6:=Blk.cell hx6 6; have z7:=Blk.cell hx6 7; have z8:=Blk.cell hx6 8; obtain ⟨ps,hp1,hown6,hpn⟩:=HS2.out.sts hf6; have HOA:Hid ((w6.alloc (.cells #[.int .u8 (x.kind:Int), .int .i64 x.n, .int .i64 x.cut, .int .i64 x.too, .int .i64 x.job.par, .slice sa x.job.nodes.length sc, .int .i64 x.part, .int .i64 x.at_, .int .i64 x.why] 29)).ownsRow n 29 9 u16 r.l.length (rowS ps)):=hown6.alloc _; have HP1:=Lib.hid hp1; have HPN:=Lib.hid hpn; have HN9:=Lib.hid hN9; have HR6:=Lib.hid hR6; have HF6:=Lib.hid hf6; clear hp1 hown6 hpn hN9 hR6)
          | (at_builtin; refine wpList_append_lies _ rfl _ _ 22 rfl n 29 i0 (.agg #[.int .u8 0, .int .i64 0, .int .i64 0, .int .i64 0, .int .i64 0, .slice none 0 0, .int .i64 0, .int .i64 0, .int .i64 0]) 9 88 Tryz.underlying22 hi hz0 hz1 hzb rfl (by decide) u16 r.l.length (rowS ps) rfl HOA.out ⟨w6.heap.size,0,none⟩ 1 1 [.int .u8 (x.kind:Int), .int .i64 x.n, .int .i64 x.cut, .int .i64 x.too, .int .i64 x.job.par, .slice sa x.job.nodes.length sc, .int .i64 x.part, .int .i64 x.at_, .int .i64 x.why] rfl rfl (World.news_of_block (heap_alloc_new w6 _)) (stC_one x sa x.job.nodes.length sc) (by decide) (by unfold maxLen; omega) (by omega) (by have:=HR6.out.hN; simp; omega) _ rfl ?_; intro q cap4 w8 hown8 hgrow8 hat8 hlt8; have HK8:=Lib.hid (HS2.out.more (x:=x) (sa:=sa) (sc:=sc) HN9.out (HR6.out.alloc (.cells #[.int .u8 (x.kind:Int), .int .i64 x.n, .int .i64 x.cut, .int .i64 x.too, .int .i64 x.job.par, .slice sa x.job.nodes.length sc, .int .i64 x.part, .int .i64 x.at_, .int .i64 x.why] 29)) HO2.out HL2.out (by have:=HF6.out.size; simp; omega) HP1.out (fun z hz => (HPN.out z hz).keep (fun _ k => k) (fun b q => alloc_old w6 _ b (Nat.lt_of_lt_of_le q HR6.out.below.size))) (HND.out.keep (fun _ k => k) (fun b q => (alloc_old w6 _ b (Nat.lt_of_lt_of_le q HR6.out.below.size)).trans (HF6.out.block b (Nat.lt_of_lt_of_le q HS2.out.rm.below.size) (fun hm => by have:=HS2.out.rm.hM b hm; omega)))) hgrow8 hat8 hlt8 hown8); have HPH8:=Lib.hid HK8.out.rm.phase_c; unfold px at HPH8; clear hown8 hgrow8 hat8 hlt8)
          | (go_at_call 17; refine HPH8.out.mono ?_; rintro e w9 ⟨rfl,rfl⟩)
          | fail)
         go_roundw
         case rel => exact ⟨k + 1,r2.phase,N9,r2,d2,by go_num,rfl,rfl,hlt,by rw [HL2.out,List.length_append]; simp; omega,HK8.out⟩
         case measure => simp [intOf]; omega
        ·have HGO:=Lib.hid hgo
         have HQ:=Lib.hid hq
         clear hq hgo
         go_wp2_with (first | (go_at_call 19; refine HPU.out.mono ?_; rintro e w6 ⟨rfl,hf6,N9,hN9,hR6⟩; have hx6:=(hf6.block BX HXB.out.lt hbl2).trans HXB.out; have z0:=Blk.cell hx6 0; have z1:=Blk.cell hx6 1; have z2:=Blk.cell hx6 2; have z3:=Blk.cell hx6 3; have z4:=Blk.cell hx6 4; have z5:=Blk.cell hx6 5; have z6:=Blk.cell hx6 6; have z7:=Blk.cell hx6 7; have z8:=Blk.cell hx6 8) | fail)
         go_meet
         exact ⟨r.l,[x],p,rfl,by omega,HS2.out.off hf6 hN9 hR6 HGO.out HGO.out.loose1 ((Below.refl _ _).alloc (Nat.le_refl _) _) (Nat.le_refl _) (Blk.new w6 _ _) (HND.out.keep (fun _ k => k) (fun b q => hf6.block b (Nat.lt_of_lt_of_le q HS2.out.rm.below.size) (fun hm => by have:=HS2.out.rm.hM b hm; omega)))⟩
        ·have hqb:(qe == 0) = false:=by rw [beq_eq_false_iff_ne]; exact hq0
         have hqc:(qe == 50) = false:=by rw [beq_eq_false_iff_ne]; exact hq50
         have HQ:=Lib.hid hq
         clear hq hq0 hq50
         go_wp2_with (first | (go_at_call 19; refine HPU.out.mono ?_; rintro e w6 ⟨rfl,hf6,N9,hN9,hR6⟩) | fail)
         go_roundw
         case rel => exact ⟨k + 1,p,N9,_,_,by go_num,rfl,rfl,hlt,by omega,HS2.out.skip hf6 hN9 hR6⟩
         case measure => simp [intOf]; omega
       ·go_wp2_with fail
        go_meet
        exact ⟨r.l,[],p,rfl,by omega,HS.out.fin⟩
     case rest =>
      obtain ⟨A,Bs,p,rfl,hAl,hKE⟩:=hcut
      obtain ⟨hbw,hn0,hown,hone,hshape,M1,d,hD,hld,hM1,hlaw⟩:=hKE
      obtain ⟨r2,ho,hr2⟩:=hlaw ch by'
      obtain ⟨hL1,hL2,hph,hpre⟩:=kept_ends hr2
      have hCR:=Crash_c wc M1 D d hD ch by' (by omega)
      have HOPN:Hid (∀ (W:World) (N7:Nat → Prop),DkAt W N7 D (d.crash ch by') → Calls Tryz.prog 16 #[px D] W fun e w' => ∃ (R2 L2:Nat) (N P:Nat → Prop),e = .returned (.tuple #[px R2, .int .i64 0]) ∧ Fr N7 W w' ∧ RoAt w' N P R2 L2 r2 D (Rdw.open (d.crash ch by')).1 ∧ (∀ b,N b → N7 b ∨ W.heap.size ≤ b) ∧ ∀ b,P b → W.heap.size ≤ b):=fun W N7 h => by
       refine (roOpen_c W N7 D _ h (Nat.zero_le _)).mono ?_
       rintro e w' (⟨e1,hx,_⟩ | ⟨r,R,L,N,P,hx,rfl,hf,hR,hN,hP⟩)
       ·rw [ho] at hx; simp at hx
       ·rw [ho] at hx
        simp only [Prod.mk.injEq,Option.some.injEq] at hx
        obtain ⟨rfl,_⟩:=hx
        exact ⟨R,L,N,P,rfl,hf,hR,hN,hP⟩
      have HCR:=Lib.hid hCR
      have HPRE:=Lib.hid hpre
      obtain ⟨aa,ac,rfl,hac1,hac2⟩:=hown.at_.slice
      have hlen:A.length ≤ 100:=by have:=H100.out; omega
      have hBl:Bs.length ≤ 1:=by
       rcases hshape with ⟨rfl,_⟩ | ⟨x,B,rfl,_⟩ <;> simp
      have HOV:=Lib.hid (fun (w7 w8:World) (N7:Nat → Prop) (hf:Fr M1 wc w7) (hN:∀ b,N7 b → M1 b ∨ wc.heap.size ≤ b) (hf2:Fr N7 w7 w8) => (⟨kept_over hbw (fun b q => ⟨(hM1 b q).1,(hM1 b q).2.1⟩) hown hf hN hf2,kept_over hbw (fun b q => ⟨(hM1 b q).1,(hM1 b q).2.2⟩) hone hf hN hf2⟩:(_ ∧ _) ∧ (_ ∧ _)))
      unfold px at HCR HOPN
      clear hCR hpre hr2 ho hlaw hD hld hM1 hown hone hbw HPW HKK HNL HPG HRM HPH HK0 HHF hbl
      go_upto_region 26 with (first
       | (go_at_call 28; refine HCR.out.mono ?_; rintro e w7 ⟨rfl,hf7,N7,hN7,hD7⟩)
       | (go_at_call 16; refine (HOPN.out _ _ hD7).mono ?_; rintro e w8 ⟨R2,L2,N8,P8,rfl,hf8,hR8,hN8,hP8⟩; obtain ⟨⟨hb8,ho8⟩,_,hq8⟩:=HOV.out _ _ _ hf7 hN7 hf8)
       | fail)
      have HLN:=Lib.hid (roLen_c hR8)
      have HPN:=Lib.hid (roPhase_c hR8)
      have HR8:=Lib.hid hR8
      have HB8:=Lib.hid hb8
      have HO8:=Lib.hid ho8
      have HQ8:=Lib.hid hq8
      unfold px at HLN HPN
      clear hR8 hb8 ho8 hq8 hf8 hN8 hP8 hD7 hN7 hf7 HCR HOPN HOV
      obtain ⟨nA,hnA⟩:∃ nA,A.length = nA:=⟨_,rfl⟩
      obtain ⟨nB,hnB⟩:∃ nB,Bs.length = nB:=⟨_,rfl⟩
      obtain ⟨nR,hnR⟩:∃ nR,r2.l.length = nR:=⟨_,rfl⟩
      have HNA:=Lib.hid hnA
      have HNB:=Lib.hid hnB
      have HNR:=Lib.hid hnR
      rw [hnA,hnR] at hph
      rw [hnA,hnR] at hL1
      rw [hnA,hnB,hnR] at hL2
      rw [hnA] at hlen hac1 hAl
      rw [hnB] at hBl
      rw [hnR] at HLN
      rw [hnA]
      clear hnA hnB hnR
      obtain ⟨ba,bc,hbv,hbc,hsh⟩:∃ ba bc,u17 = .slice ba nB bc ∧ nB ≤ bc ∧ (nB = 0 ∧ ba = none ∧ Bs = [] ∨ ∃ x B,Bs = [x] ∧ nB = 1 ∧ bc = 1 ∧ ba = some ⟨B,0,none⟩):=by
       rcases hshape with ⟨h1,h2⟩ | ⟨x,B,h1,h2⟩
       ·refine ⟨none,0, ?_, ?_, .inl ⟨?_,rfl,h1⟩⟩
        ·rw [h2, ← HNB.out,h1]; rfl
        ·rw [← HNB.out,h1]; exact Nat.le_refl _
        ·rw [← HNB.out,h1]; rfl
       ·refine ⟨some ⟨B,0,none⟩,1, ?_,hBl, .inr ⟨x,B,h1, ?_,rfl,rfl⟩⟩
        ·rw [h2, ← HNB.out,h1]; rfl
        ·rw [← HNB.out,h1]; rfl
      clear hshape
      subst hbv
      have HSH:=Lib.hid hsh
      have HPP:=Lib.hid hph
      clear hsh hph
      have e1:decide ((nR:Int) < (nA:Int)) = false:=decide_eq_false (by omega)
      have hsum:IntKind.i64.wrap ((nA:Int) + (nB:Int)) = (nA:Int) + (nB:Int):=IntWalk.i64_in _ (by omega)
      have e2:decide ((nA:Int) + (nB:Int) < (nR:Int)) = false:=decide_eq_false (by omega)
      go_cut [126] (fun c wx => c = .bool false ∧ w8 = wx)
      case first =>
       by_cases hq:nR = nA
       ·have e3:((nR:Int) == (nA:Int)) = true:=by rw [beq_iff_eq]; omega
        have hpp:=HPP.out hq
        rw [hpp] at HPN
        clear hq hpp
        go_wp2_with (first
         | (go_at_call 18; refine HLN.out.mono ?_; rintro e w9 ⟨rfl,rfl⟩)
         | (go_at_call 17; refine HPN.out.mono ?_; rintro e w9 ⟨rfl,rfl⟩)
         | fail)
        go_meet
        exact ⟨congrArg Value.bool (decide_eq_false (by omega)),rfl⟩
       ·have e3:((nR:Int) == (nA:Int)) = false:=by rw [beq_eq_false_iff_ne]; omega
        clear hq
        go_wp2_with (first
         | (go_at_call 18; refine HLN.out.mono ?_; rintro e w9 ⟨rfl,rfl⟩)
         | fail)
        go_meet
        exact ⟨congrArg Value.bool (decide_eq_false (by omega)),rfl⟩
      case rest =>
       obtain ⟨rfl,rfl⟩:=hcut
       clear e1 e2 hsum HPN HPP hL1 hL2
       go_upto_region 28 with fail
       go_cut [134,135,136] (fun fv fn fi wx => ∃ fa fc,fv = .slice fa (nA + nB) fc ∧ fn = .int .i64 ((nA + nB:Nat):Int) ∧ fi = .int .i64 0 ∧ StsRd wx (· < wx.heap.size) (.slice fa (nA + nB) fc) (A ++ Bs) ∧ Below w8.heap.size w8 wx)
       case first =>
        obtain ⟨i0,hi,hz0,hz1,hzb⟩:=info_parts info_step
        have hfm:=HO8.out.form
        rcases HSH.out with ⟨rfl,rfl,rfl⟩ | ⟨x,B,rfl,rfl,rfl,rfl⟩
        ·rcases hfm with ⟨rfl,rfl,rfl⟩ | ⟨g,rfl⟩
         ·obtain rfl:0 = nA:=HNA.out
          go_wp2_with (first
           | (at_builtin; refine wpList_append_none _ rfl _ _ 22 rfl 29 i0 Tryz.underlying22 hi none 0 0 0 rfl (Nat.le_refl _) rfl ?_)
           | fail)
          go_meet
          exact ⟨none,0,rfl,rfl,rfl,⟨none,0,rfl,Nat.le_refl _,Nat.zero_le _, .inl rfl⟩,Below.refl _ _⟩
         ·have hrd:=HO8.out.rd rfl (k:=nA) (by rw [HNA.out]; exact Nat.le_refl _) (by omega) HB8.out.size
          rw [HNA.out] at hrd
          have HRD:=Lib.hid hrd
          clear hrd
          go_wp2_with (first
           | (at_builtin; refine wpList_append_none _ rfl _ _ 22 rfl 29 i0 Tryz.underlying22 hi (some ⟨g,0,none⟩) nA nA 0 rfl (Nat.le_refl _) rfl ?_)
           | fail)
          go_meet
          exact ⟨_,nA,rfl,rfl,rfl,by rw [List.append_nil]; exact HRD.out,Below.refl _ _⟩
        ·obtain ⟨psA,a1,a2,a3⟩:=HO8.out
         obtain ⟨psB,b1,b2,b3⟩:=HQ8.out
         rw [HNA.out] at a2
         have hone:∀ v ∈ rowS psB,v.oneCell' = true:=rowS_one psB b3
         have hbl:=b2.1
         have hal:=a2.1
         have hcB:=rowCells b2
         have hdone:∀ (v':Value) (w9:World),w9.ownsRow w8.heap.size 29 9 v' (nA + 1) (rowS psA ++ rowS psB) → w8.grownBy w9 none → ∃ fa fc,v' = .slice fa (nA + 1) fc ∧ StsRd w9 (· < w9.heap.size) (.slice fa (nA + 1) fc) (A ++ [x]) ∧ Below w8.heap.size w8 w9:=by
          intro v' w9 h9 hg9
          have hb9:Below w8.heap.size w8 w9:=⟨hg9.os,hg9.tape,hg9.output,hg9.size,fun k hk => hg9.block k hk (by simp)⟩
          have hl:(A ++ [x]).length = nA + 1:=by rw [List.length_append,HNA.out]; rfl
          have hr:=own_rd (v:=v') (W:=w9) (base:=w8.heap.size) (A:=A ++ [x]) (ps:=psA ++ psB) (P:=(· < w.heap.size)) (by rw [List.map_append,a1,b1]) (by rw [hl]; unfold rowS at h9 ⊢; rw [List.flatMap_append]; exact h9) (fun z hz => by
           rcases List.mem_append.1 hz with hz | hz
           ·exact (a3 z hz).keep (fun _ k => k) (fun b q => hb9.block b (Nat.lt_of_lt_of_le q HB8.out.size))
           ·exact (b3 z hz).keep (fun _ k => k) (fun b q => hb9.block b (Nat.lt_of_lt_of_le q HB8.out.size))) (fun b q => Nat.lt_of_lt_of_le q (Nat.le_trans HB8.out.size hg9.size))
          obtain ⟨fa,fc,e,_⟩:=id hr.slice
          rw [hl] at e
          subst e
          exact ⟨fa,fc,rfl,hr,hb9⟩
         have HDN:=Lib.hid hdone
         rcases hfm with ⟨rfl,rfl,rfl⟩ | ⟨g,rfl⟩
         ·obtain rfl:0 = nA:=HNA.out
          obtain rfl:psA = []:=by cases psA with | nil => rfl | cons p l => simp at a1
          clear a1 a2 a3 b1 b2 b3 hal hdone
          go_wp2_with (first
           | (at_builtin; refine wpList_append_grows _ rfl _ _ 22 rfl 29 i0 (.agg #[.int .u8 0, .int .i64 0, .int .i64 0, .int .i64 0, .int .i64 0, .slice none 0 0, .int .i64 0, .int .i64 0, .int .i64 0]) 9 88 Tryz.underlying22 hi hz0 hz1 hzb rfl (by decide) none 0 0 [] rfl (fun _ => ⟨rfl,rfl⟩) rfl (fun b e => by cases e) ⟨B,0,none⟩ 1 1 (rowS psB) rfl hbl hcB hone (by omega) (by unfold maxLen; omega) (by omega) ?_; intro v' w9 h9 hg9; obtain ⟨fa,fc,rfl,hr9,hb9⟩:=HDN.out _ _ h9 hg9)
           | fail)
          go_meet
          exact ⟨fa,fc,rfl,rfl,rfl,hr9,hb9⟩
         ·have hcA:=rowCells a2
          clear a1 a2 a3 b1 b2 b3 hdone
          go_wp2_with (first
           | (at_builtin; refine wpList_append_grows _ rfl _ _ 22 rfl 29 i0 (.agg #[.int .u8 0, .int .i64 0, .int .i64 0, .int .i64 0, .int .i64 0, .slice none 0 0, .int .i64 0, .int .i64 0, .int .i64 0]) 9 88 Tryz.underlying22 hi hz0 hz1 hzb rfl (by decide) (some ⟨g,0,none⟩) nA nA (rowS psA) rfl (fun e => by cases e) hal (fun b e => by cases e; exact hcA) ⟨B,0,none⟩ 1 1 (rowS psB) rfl hbl hcB hone (by omega) (by unfold maxLen; omega) (by omega) ?_; intro v' w9 h9 hg9; obtain ⟨fa,fc,rfl,hr9,hb9⟩:=HDN.out _ _ h9 hg9)
           | fail)
          go_meet
          exact ⟨fa,fc,rfl,rfl,rfl,hr9,hb9⟩
       case rest =>
        obtain ⟨fa,fc,rfl,rfl,rfl,hrd,hb9⟩:=hcut
        have hlT:(A ++ Bs).length = nA + nB:=by rw [List.length_append,HNA.out,HNB.out]
        have HLT:=Lib.hid hlT
        have HRD:=Lib.hid hrd
        have HR9:=Lib.hid (HR8.out.below hb9)
        have HB9:=Lib.hid (HB8.out.trans (hb9.mono HB8.out.size))
        have hnT:((nA + nB:Nat):Int) ≤ 1000:=by omega
        clear hrd hb9 hlT HR8 HB8 HO8 HQ8 HSH HLN
        generalize hT:nA + nB = nT at *
        clear hT hac1 hac2 hbc hBl hlen hAl
        go_wp2_with fail
        go_loopw [136] (fun q wr => ∃ j:Nat,q = .int .i64 (j:Int) ∧ j ≤ nT ∧ Below wc.heap.size wc wr) (fun q _ => nT - (intOf q).toNat)
        case atStart => exact ⟨0,rfl,Nat.zero_le _,Below.refl _ _⟩
        case round =>
         obtain ⟨j,rfl,hj,hbr⟩:=hrel
         by_cases hlt:j < nT
         ·have hjl:j < (A ++ Bs).length:=by rw [HLT.out]; exact hlt
          obtain ⟨b,off,cp,sv,e1,hb,hnd,hc⟩:=(HRD.out.keep (Q:=(· < wc.heap.size)) (fun _ k => k) (fun b hb => hbr.block b hb)).at_ j hjl
          rw [HLT.out] at e1
          simp only [Value.slice.injEq,true_and] at e1
          obtain ⟨rfl,rfl⟩:=e1
          obtain ⟨sa,sc,rfl,_,_⟩:=hnd.slice
          have hxe:∀ h:j < r2.l.length,r2.l[j]'h = (A ++ Bs)[j]'hjl:=fun h => by
           obtain ⟨t,ht⟩:=HPRE.out
           simp only [ht]
           rw [List.getElem_append_left h]
          generalize (A ++ Bs)[j]'hjl = x at *
          have HXE:=Lib.hid hxe
          unfold stC at hc
          have c0:=hc 0 (by omega)
          have c1:=hc 1 (by omega)
          have c2:=hc 2 (by omega)
          have c3:=hc 3 (by omega)
          have c4:=hc 4 (by omega)
          have c5:=hc 5 (by omega)
          have c6:=hc 6 (by omega)
          have c7:=hc 7 (by omega)
          have c8:=hc 8 (by omega)
          rw [Nat.add_zero] at c0
          have hjI:(j:Int) < (nT:Int):=by omega
          have hbx:=Blk.new wr #[.int .u8 (x.kind:Int), .int .i64 x.n, .int .i64 x.cut, .int .i64 x.too, .int .i64 x.job.par, .slice sa x.job.nodes.length sc, .int .i64 x.part, .int .i64 x.at_, .int .i64 x.why] 29
          have hB2:=(Below.refl wr.heap.size wr).alloc (Nat.le_refl _) (.cells #[.int .u8 (x.kind:Int), .int .i64 x.n, .int .i64 x.cut, .int .i64 x.too, .int .i64 x.job.par, .slice sa x.job.nodes.length sc, .int .i64 x.part, .int .i64 x.at_, .int .i64 x.why] 29)
          have HBR:=Lib.hid (hbr.trans (hB2.mono hbr.size))
          have HND:=Lib.hid (hnd.keep (w':=wr.alloc (.cells #[.int .u8 (x.kind:Int), .int .i64 x.n, .int .i64 x.cut, .int .i64 x.too, .int .i64 x.job.par, .slice sa x.job.nodes.length sc, .int .i64 x.part, .int .i64 x.at_, .int .i64 x.why] 29)) (Q:=(· < wc.heap.size)) (fun _ k => k) (fun b q => alloc_old wr _ b (Nat.lt_of_lt_of_le q hbr.size)))
          have hwr:wc.heap.size ≤ wr.heap.size:=hbr.size
          rename_i hy1 hy2
          clear hy1 hy2 hc hnd hb hbr hB2 hxe
          go_upto_region 31 with fail
          generalize wr.heap.size = BX at *
          generalize World.alloc wr _ = W2 at *
          clear c0 c1 c2 c3 c4 c5 c6 c7 c8
          have HR2:=Lib.hid (HR9.out.below HBR.out)
          have HBX:=Lib.hid hbx
          clear hbx
          by_cases hjr:j < nR
          ·have HAT:Hid (Calls Tryz.prog 26 #[px R2, .int .i64 (j:Int)] W2 fun e w' => ∃ a c,e = .returned (.tuple #[.agg (stC x (.slice a x.job.nodes.length c)), .int .i64 0]) ∧ NodesIn w' P8 x.job.nodes (.slice a x.job.nodes.length c) ∧ Below W2.heap.size W2 w'):=by
            have hh:j < r2.l.length:=by rw [HNR.out]; exact hjr
            have:=roAt_c HR2.out j hh
            rw [HXE.out hh] at this
            exact this
           have e1:decide ((j:Int) < (nR:Int)) = true:=decide_eq_true (by omega)
           have e2:decide (j < nR) = true:=decide_eq_true hjr
           unfold px at HAT
           go_upto_region 32 with (first | (go_at_call 26; refine HAT.out.mono ?_; rintro e w10 ⟨a7,c7,rfl,hn7,hb7⟩; unfold stC) | fail)
           have hby11:=Blk.new w10 #[.int .u8 (x.kind:Int), .int .i64 x.n, .int .i64 x.cut, .int .i64 x.too, .int .i64 x.job.par, .slice a7 x.job.nodes.length c7, .int .i64 x.part, .int .i64 x.at_, .int .i64 x.why] 29
           have hbA:=hb7.alloc hb7.size (.cells #[.int .u8 (x.kind:Int), .int .i64 x.n, .int .i64 x.cut, .int .i64 x.too, .int .i64 x.job.par, .slice a7 x.job.nodes.length c7, .int .i64 x.part, .int .i64 x.at_, .int .i64 x.why] 29)
           have hbx11:=HBX.out.below hbA HBX.out.lt
           have hR11:=HR2.out.below hbA
           have hN7:=hn7.keep (w':=w10.alloc (.cells #[.int .u8 (x.kind:Int), .int .i64 x.n, .int .i64 x.cut, .int .i64 x.too, .int .i64 x.job.par, .slice a7 x.job.nodes.length c7, .int .i64 x.part, .int .i64 x.at_, .int .i64 x.why] 29)) (Q:=(· < (w10.alloc (.cells #[.int .u8 (x.kind:Int), .int .i64 x.n, .int .i64 x.cut, .int .i64 x.too, .int .i64 x.job.par, .slice a7 x.job.nodes.length c7, .int .i64 x.part, .int .i64 x.at_, .int .i64 x.why] 29)).heap.size)) (fun b q => (hR11.dis b q).1) (fun b q => alloc_old w10 _ b (Nat.lt_of_lt_of_le (HR2.out.dis b q).1 hb7.size))
           have hN8:=HND.out.keep (w':=w10.alloc (.cells #[.int .u8 (x.kind:Int), .int .i64 x.n, .int .i64 x.cut, .int .i64 x.too, .int .i64 x.job.par, .slice a7 x.job.nodes.length c7, .int .i64 x.part, .int .i64 x.at_, .int .i64 x.why] 29)) (Q:=(· < (w10.alloc (.cells #[.int .u8 (x.kind:Int), .int .i64 x.n, .int .i64 x.cut, .int .i64 x.too, .int .i64 x.job.par, .slice a7 x.job.nodes.length c7, .int .i64 x.part, .int .i64 x.at_, .int .i64 x.why] 29)).heap.size)) (fun b q => by have:=HBR.out.size; have:=hbA.size; omega) (fun b q => hbA.block b (Nat.lt_of_lt_of_le q HBR.out.size))
           have HBB:=Lib.hid (HBR.out.trans (hbA.mono HBR.out.size))
           generalize World.alloc w10 _ = W11 at *
           have HL11:=Lib.hid (roLen_c hR11)
           rw [HNR.out] at HL11
           have HSM:Hid (Calls Tryz.prog 23 #[.agg #[.int .u8 (x.kind:Int), .int .i64 x.n, .int .i64 x.cut, .int .i64 x.too, .int .i64 x.job.par, .slice sa x.job.nodes.length sc, .int .i64 x.part, .int .i64 x.at_, .int .i64 x.why], .agg #[.int .u8 (x.kind:Int), .int .i64 x.n, .int .i64 x.cut, .int .i64 x.too, .int .i64 x.job.par, .slice a7 x.job.nodes.length c7, .int .i64 x.part, .int .i64 x.at_, .int .i64 x.why]] W11 fun e w' => e = .returned (.bool true) ∧ Below W11.heap.size W11 w'):=by
            have:=roSame_c x x _ _ W11 (· < W11.heap.size) ⟨_,rfl,hN8⟩ ⟨_,rfl,hN7⟩ (fun b q => q)
            rw [St.sameB_refl] at this
            exact this
           unfold px at HL11
           have y0:=hbx11.cell 0
           have y1:=hbx11.cell 1
           have y2:=hbx11.cell 2
           have y3:=hbx11.cell 3
           have y4:=hbx11.cell 4
           have y5:=hbx11.cell 5
           have y6:=hbx11.cell 6
           have y7:=hbx11.cell 7
           have y8:=hbx11.cell 8
           have z0:=hby11.cell 0
           have z1:=hby11.cell 1
           have z2:=hby11.cell 2
           have z3:=hby11.cell 3
           have z4:=hby11.cell 4
           have z5:=hby11.cell 5
           have z6:=hby11.cell 6
           have z7:=hby11.cell 7
           have z8:=hby11.cell 8
           clear hN7 hN8 hn7 hb7 hbA hR11 hby11 hbx11
           go_wp2_with (first
            | (go_at_call 18; refine HL11.out.mono ?_; rintro e w12 ⟨rfl,rfl⟩)
            | (go_at_call 23; refine HSM.out.mono ?_; rintro e w12 ⟨rfl,hb12⟩)
            | fail)
           go_roundw
           case rel => exact ⟨j + 1,by go_num,hlt,HBB.out.trans (hb12.mono HBB.out.size)⟩
           case measure => simp [intOf]; omega
          ·have HAT:=Lib.hid (roAt_out HR2.out j (by rw [HNR.out]; omega))
           have e1:decide ((j:Int) < (nR:Int)) = false:=decide_eq_false (by omega)
           have e2:decide (j < nR) = false:=decide_eq_false hjr
           unfold px at HAT
           go_upto_region 32 with (first | (go_at_call 26; refine HAT.out.mono ?_; rintro e w10 ⟨rfl,hb7⟩; unfold stC) | fail)
           have hbA:=hb7.alloc hb7.size (.cells #[.int .u8 0, .int .i64 0, .int .i64 0, .int .i64 0, .int .i64 0, .slice none 0 0, .int .i64 0, .int .i64 0, .int .i64 0] 29)
           have hR11:=HR2.out.below hbA
           have HBB:=Lib.hid (HBR.out.trans (hbA.mono HBR.out.size))
           have HL11:=Lib.hid (roLen_c hR11)
           rw [HNR.out] at HL11
           unfold px at HL11
           clear hbA hR11 hb7
           go_wp2_with (first
            | (go_at_call 18; refine HL11.out.mono ?_; rintro e w12 ⟨rfl,rfl⟩)
            | fail)
           go_roundw
           case rel => exact ⟨j + 1,by go_num,hlt,HBB.out⟩
           case measure => simp [intOf]; omega
         ·go_wp2_with (first | (go_at_call 14; refine (HWK.out wr (HB9.out.trans (hbr.mono HB9.out.size))).mono ?_; rintro e w10 ⟨rfl,hb10⟩) | fail)
          go_ret
          exact ⟨rfl,(HB9.out.trans (hbr.mono HB9.out.size)).trans (hb10.mono (HB9.out.trans (hbr.mono HB9.out.size)).size)⟩
   ·rw [hh] at HH
    go_wp2_with (first
     | (go_at_call 13; refine HH.out.mono ?_; rintro e w3 ⟨rfl,hb3⟩)
     | (go_at_call 14; refine (HWK.out w3 (HOB.out.trans (hb3.mono HOB.out.size))).mono ?_; rintro e w4 ⟨rfl,hb4⟩)
     | fail)
    go_ret
    exact ⟨rfl,(HOB.out.trans (hb3.mono HOB.out.size)).trans (hb4.mono (HOB.out.trans (hb3.mono HOB.out.size)).size)⟩
section
open Go.RowKit Go.ChangeShapes Go.WideShapes
theorem cellsStep:Tryz.prog.cellsOf 29 = 9:=by kernel_rfl
section
variable {H:Type} {enc:TypeId × Value → H} {w:World}
set_option maxRecDepth 100000 in
theorem open_step9 (m:Nat) (c0 c1 c2 c3 c4 c5 c6 c7 c8:Value) (y:DataW H × List MemPlace) (h:DataW.trod enc Tryz.prog w 0 (fun _ => true) true m 29 [c0,c1,c2,c3,c4,c5,c6,c7,c8] = some y) :
  ∃ (x:St) (sv:Value),[c0,c1,c2,c3,c4,c5,c6,c7,c8] = (stC x sv).toList ∧ NodesAt w w.heap.size x.job.nodes sv ∧ x.Ok:=by
 obtain ⟨xs,m1,hm2,_,_,hxl,hfs⟩:=DataW.trod_struct Tryz.underlying29 h
 have q0:=hfs 0 _ rfl
 have q1:=hfs 1 _ rfl
 have q2:=hfs 2 _ rfl
 have q3:=hfs 3 _ rfl
 have q4:=hfs 4 _ rfl
 have q5:=hfs 5 _ rfl
 have q6:=hfs 6 _ rfl
 have q7:=hfs 7 _ rfl
 have hxl:xs.length = 8:=by assumption
 obtain ⟨y0,y1,y2,y3,y4,y5,y6,y7,rfl⟩:∃ y0 y1 y2 y3 y4 y5 y6 y7,xs = [y0,y1,y2,y3,y4,y5,y6,y7]:=by
  match xs,hxl with
  | [y0,y1,y2,y3,y4,y5,y6,y7],_ => exact ⟨y0,y1,y2,y3,y4,y5,y6,y7,rfl⟩
 have e0:DataW.trod enc Tryz.prog w 0 (fun _ => true) true m1 5 [c0] = some y0:=q0
 have e1:DataW.trod enc Tryz.prog w 0 (fun _ => true) true m1 2 [c1] = some y1:=q1
 have e2:DataW.trod enc Tryz.prog w 0 (fun _ => true) true m1 2 [c2] = some y2:=q2
 have e3:DataW.trod enc Tryz.prog w 0 (fun _ => true) true m1 2 [c3] = some y3:=q3
 have e4:DataW.trod enc Tryz.prog w 0 (fun _ => true) true m1 26 [c4,c5] = some y4:=q4
 have e5:DataW.trod enc Tryz.prog w 0 (fun _ => true) true m1 3 [c6] = some y5:=q5
 have e6:DataW.trod enc Tryz.prog w 0 (fun _ => true) true m1 3 [c7] = some y6:=q6
 have e7:DataW.trod enc Tryz.prog w 0 (fun _ => true) true m1 27 [c8] = some y7:=q7
 obtain ⟨k0,h0,_,w0⟩:=DataW.trod_int Tryz.underlying5 e0
 obtain ⟨k1,h1,_,w1⟩:=DataW.trod_int Tryz.underlying2 e1
 obtain ⟨k2,h2,_,w2⟩:=DataW.trod_int Tryz.underlying2 e2
 obtain ⟨k3,h3,_,w3⟩:=DataW.trod_int Tryz.underlying2 e3
 obtain ⟨k5,h5,_,w5⟩:=DataW.trod_int Tryz.underlying3 e5
 obtain ⟨k6,h6,_,w6⟩:=DataW.trod_int Tryz.underlying3 e6
 obtain ⟨k7,h7,_,w7⟩:=DataW.trod_int Tryz.underlying27 e7
 obtain ⟨zs,m2,_,_,_,hzl,hgs⟩:=DataW.trod_struct Tryz.underlying26 e4
 have p0:=hgs 0 _ rfl
 have p1:=hgs 1 _ rfl
 have hzl:zs.length = 2:=by assumption
 obtain ⟨z0,z1,rfl⟩:∃ z0 z1,zs = [z0,z1]:=by
  match zs,hzl with
  | [z0,z1],_ => exact ⟨z0,z1,rfl⟩
 have f0:DataW.trod enc Tryz.prog w 0 (fun _ => true) true m2 3 [c4] = some z0:=p0
 have f1:DataW.trod enc Tryz.prog w 0 (fun _ => true) true m2 24 [c5] = some z1:=p1
 obtain ⟨k4,h4,_,w4⟩:=DataW.trod_int Tryz.underlying3 f0
 obtain ⟨l,hl1,hl2⟩:=open_nodes m2 c5 z1 f1
 simp only [List.cons.injEq,and_true] at h0 h1 h2 h3 h4 h5 h6 h7
 subst h0 h1 h2 h3 h4 h5 h6 h7
 have r0:=wf_u8r w0
 have r4:=wf_i64r w4
 obtain ⟨n,rfl⟩:∃ n:Nat,k0 = (n:Int):=⟨k0.toNat,by omega⟩
 exact ⟨⟨n,k1,k2,k3,⟨k4,l⟩,k5,k6,k7⟩,c5,rfl,hl1,by show n < 256; omega,wf_i64r w1,wf_i64r w2,wf_i64r w3,⟨r4.1,r4.2,hl2⟩,wf_i64r w5,wf_i64r w6,wf_i64r w7⟩
set_option maxRecDepth 100000 in
theorem open_stepRow (fuel:Nat) (sv:Value) (x:DataW H × List MemPlace) (h:DataW.trod enc Tryz.prog w 0 (fun _ => true) true fuel 22 [sv] = some x) :
  ∃ l:List St,StsRd w (· < w.heap.size) sv l ∧ (∀ x ∈ l,x.Ok) ∧ (l.length = 0 ∨ ∃ es sp,x.1 = .slice es sp ∧ es.length = l.length):=by
 rcases DataW.trod_slice Tryz.underlying22 h with ⟨h0,_⟩ | ⟨a,len,cap,elems,rest,n,hf,hcs,hx,hb,hl,hm,hlen,hel,_,_⟩
 ·simp only [List.cons.injEq,and_true] at h0
  subst h0
  exact ⟨[],⟨none,0,rfl,Nat.zero_le _,Nat.zero_le _, .inl rfl⟩,by simp, .inl rfl⟩
 ·simp only [List.cons.injEq,and_true] at hcs
  subst hcs
  rw [cellsStep] at hel
  have hex:∀ i,i < len → ∃ (y:St) (sv:Value),(∀ j,j < 9 → w.cell? (a.add (i * 9 + j)) = (stC y sv)[j]?) ∧ NodesAt w w.heap.size y.job.nodes sv ∧ y.Ok:=by
   intro i hi
   have hi2:i < elems.length:=by omega
   have h1:=hel i hi
   rw [List.getElem?_eq_getElem hi2] at h1
   obtain ⟨cs,h2,h3⟩:=Option.bind_eq_some_iff.1 h1
   obtain ⟨_,hcl,hcell⟩:=World.cells?_some h2
   match cs,hcl with
   | [c0,c1,c2,c3,c4,c5,c6,c7,c8],_ =>
    obtain ⟨y,sv,hy,hn,hok⟩:=open_step9 _ c0 c1 c2 c3 c4 c5 c6 c7 c8 _ h3
    refine ⟨y,sv,fun j hj => ?_,hn,hok⟩
    have g:=hcell j (by omega)
    rw [Go.Deep.add_add,hy] at g
    rw [g,Array.getElem?_toList]
  by_cases h0:len = 0
  ·subst h0
   exact ⟨[],⟨_,cap,rfl,Nat.zero_le _,hm, .inl rfl⟩,by simp, .inl rfl⟩
  ·obtain ⟨Y,hY⟩ := @Go.Deep.choose_lt St ⟨⟨0,0,0,0,⟨0,[]⟩,0,0,0⟩⟩ len _ hex
   obtain ⟨V,hV⟩:=Go.Deep.choose_lt hY
   have h00:w.cell? a = some (.int .u8 ((Y 0).kind:Int)):=by
    have:=(hV 0 (by omega)).1 0 (by omega)
    simpa [Addr.add,stC] using this
   obtain ⟨b,off,rfl⟩:∃ b off,a = ⟨b,off,none⟩:=⟨_,_,add_spot h00⟩
   have hlt:b < w.heap.size:=World.block_lt_of_cell? _ _ h00
   refine ⟨(List.range len).map Y,⟨some ⟨b,off,none⟩,cap,by simp,by simpa using hl,hm, .inr ⟨b,off,rfl,hlt,fun j hj => ?_⟩⟩, ?_, .inr ⟨_,_,by rw [hx],by simpa using hlen⟩⟩
   ·have hj':j < len:=by simpa using hj
    obtain ⟨hc,hn,_⟩:=hV j hj'
    have hg:((List.range len).map Y)[j]'hj = Y j:=by simp
    rw [hg]
    refine ⟨V j,NodesIn.of_at hn,fun k hk => ?_⟩
    have:=hc k hk
    rw [addr_add, ← Nat.add_assoc] at this
    exact this
   ·intro z hz
    obtain ⟨i,hi,rfl⟩:=List.mem_map.1 hz
    exact (hV i (by simpa using hi)).2.2
set_option maxRecDepth 100000 in
theorem open_steps {r:Reach} {b0:Nat} {v:Value} {d:DataW H} {p:List MemPlace} (hv:Value.okWide Tryz.prog w r b0 22 v) (h:DataW.Trod enc Tryz.prog w 0 (fun _ => true) true 22 v d p) :
  ∃ l:List St,StsRd w (· < w.heap.size) v l ∧ (∀ x ∈ l,x.Ok) ∧ (l.length = 0 ∨ ∃ es sp,d = .slice es sp ∧ es.length = l.length):=by
 obtain ⟨a,len,cap,rfl⟩:=okWide_slice Tryz.underlying22 hv
 obtain ⟨n,h2⟩:=Go.Joins.field_of_Trod h rfl
 exact open_stepRow n _ _ h2
end
end
end Go.Proofs.YtpkijdkoiecpiaaGreatDoor
