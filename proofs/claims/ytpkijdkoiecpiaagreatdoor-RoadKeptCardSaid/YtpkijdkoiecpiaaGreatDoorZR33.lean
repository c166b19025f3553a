/-
  Parts of the proof: PJ PK PM PL PX PY PO.
-/
import Derived.Deep.CutBlock
import Derived.Deep.AppendLies
import Derived.Test.YtpkijdkoiecpiaaGreatDoorZR14
import Derived.Test.YtpkijdkoiecpiaaGreatDoorZR20
import Derived.Test.YtpkijdkoiecpiaaGreatDoorZR24
import Derived.Test.YtpkijdkoiecpiaaGreatDoorZR32
import Derived.Test.YtpkijdkoiecpiaaGreatDoorZR34
import Derived.Test.YtpkijdkoiecpiaaGreatDoorZR35
namespace Go.Proofs.YtpkijdkoiecpiaaGreatDoor
open Go.RowKit
set_option linter.unusedVariables false
set_option linter.unusedSimpArgs false
def rowS (ps:List (St × Value)):List Value:=ps.flatMap fun p => (stC p.1 p.2).toList
theorem rowS_cons (p:St × Value) (ps:List (St × Value)):rowS (p :: ps) = (stC p.1 p.2).toList ++ rowS ps:=by simp [rowS]
theorem rowS_snoc (ps:List (St × Value)) (p:St × Value):rowS (ps ++ [p]) = rowS ps ++ (stC p.1 p.2).toList:=by simp [rowS]
theorem stC_len (x:St) (v:Value):(stC x v).toList.length = 9:=rfl
theorem rowS_at:∀ (ps:List (St × Value)) (k:Nat) (h:k < ps.length) (j:Nat) (hj:j < 9),(rowS ps)[k * 9 + j]? = (stC ps[k].1 ps[k].2)[j]?
 | p :: ps,0,_,j,hj => by
  rw [rowS_cons,Nat.zero_mul,Nat.zero_add,List.getElem?_append_left (by rw [stC_len]; exact hj),Array.getElem?_toList]; rfl
 | p :: ps,k + 1,h,j,hj => by
  rw [rowS_cons,List.getElem?_append_right (by rw [stC_len]; omega),stC_len,show (k + 1) * 9 + j - 9 = k * 9 + j by omega,rowS_at ps k (by simpa using h) j hj]; rfl
def StsAt (w:World) (P:Nat → Prop) (v:Value) (l:List St):Prop :=
 ∃ ps:List (St × Value),ps.map Prod.fst = l ∧ w.ownsRow 0 29 9 v l.length (rowS ps) ∧ ∀ p ∈ ps,NodesIn w P p.1.job.nodes p.2
namespace StsAt
variable {w w':World} {P Q:Nat → Prop} {v:Value} {l:List St}
theorem nil (w:World) (P:Nat → Prop):StsAt w P (.slice none 0 0) []:=⟨[],rfl,World.ownsRow_nil _ _ _ _,by simp⟩
theorem keep (h:StsAt w P v l) (hPQ:∀ b,P b → Q b) (hk:∀ b,P b → w'.heap[b]? = w.heap[b]?) (hr:∀ g,rowB v g → w'.heap[g]? = w.heap[g]?):StsAt w' Q v l:=by
 obtain ⟨ps,h1,h2,h3⟩:=h
 exact ⟨ps,h1,ownsRow_keep h2 hr,fun p hp => (h3 p hp).keep hPQ hk⟩
theorem slice (h:StsAt w P v l):∃ a cap,v = .slice a l.length cap ∧ l.length ≤ cap ∧ cap ≤ maxLen:=by
 obtain ⟨ps,h1,h2,h3⟩:=h
 rcases h2.2 with ⟨rfl,h0⟩ | ⟨g,cap,cur,rfl,hb,hg,hn,hc,hs,ht⟩
 ·exact ⟨none,0,by rw [h0],by omega,by unfold maxLen; omega⟩
 ·exact ⟨_,cap,rfl,hn,hc⟩
theorem cells (h:StsAt w P v l) (k:Nat) (hk:k < l.length):∃ g cap sv,v = .slice (some ⟨g,0,none⟩) l.length cap ∧ NodesIn w P l[k].job.nodes sv ∧ ∀ j,j < 9 → w.cell? ⟨g,k * 9 + j,none⟩ = (stC l[k] sv)[j]? := by
 obtain ⟨ps,h1,h2,h3⟩:=h
 have hpl:ps.length = l.length:=by rw [← h1,List.length_map]
 rcases h2.2 with ⟨rfl,h0⟩ | ⟨g,cap,cur,rfl,hb,hg,hn,hc,hs,ht⟩
 ·omega
 ·have e:∀ j,j < l.length * 9 → w.cell? ⟨g,j,none⟩ = (rowS ps)[j]? := fun j hj => by
   rw [cell_of_row w g j cur _ (0,0) hg, ← ht,List.getElem?_take,if_pos hj]
   simp
  have hk2:k < ps.length:=by omega
  have hx:l[k] = ps[k].1:=by subst h1; rw [List.getElem_map]
  refine ⟨g,cap,ps[k].2,rfl, ?_,fun j hj => ?_⟩
  ·rw [hx]; exact h3 _ (List.getElem_mem hk2)
  ·rw [e _ (by omega),hx]; exact rowS_at ps k hk2 j hj
end StsAt
def StsRd (w:World) (P:Nat → Prop) (v:Value) (l:List St):Prop :=
 ∃ a cap,v = .slice a l.length cap ∧ l.length ≤ cap ∧ cap ≤ maxLen ∧ (l.length = 0 ∨ ∃ b off,a = some ⟨b,off,none⟩ ∧ P b ∧ ∀ k (h:k < l.length),∃ sv,NodesIn w P l[k].job.nodes sv ∧ ∀ j,j < 9 → w.cell? ⟨b,off + k * 9 + j,none⟩ = (stC l[k] sv)[j]?)
theorem StsRd.keep {w w':World} {P Q:Nat → Prop} {v:Value} {l:List St} (h:StsRd w P v l) (hPQ:∀ b,P b → Q b) (hk:∀ b,P b → w'.heap[b]? = w.heap[b]?):StsRd w' Q v l:=by
 obtain ⟨a,cap,hv,h1,h2,h3⟩:=h
 refine ⟨a,cap,hv,h1,h2,h3.imp id ?_⟩
 rintro ⟨b,off,ha,hb,hc⟩
 refine ⟨b,off,ha,hPQ b hb,fun k hk2 => ?_⟩
 obtain ⟨sv,hn,hcs⟩:=hc k hk2
 exact ⟨sv,hn.keep hPQ hk,fun j hj => (World.cell?_of_block (hk b hb)).trans (hcs j hj)⟩
theorem StsRd.slice {w:World} {P:Nat → Prop} {v:Value} {l:List St} (h:StsRd w P v l):∃ a cap,v = .slice a l.length cap ∧ l.length ≤ cap ∧ cap ≤ maxLen:=by
 obtain ⟨a,cap,hv,h1,h2,h3⟩:=h
 exact ⟨a,cap,hv,h1,h2⟩
theorem StsRd.at_ {w:World} {P:Nat → Prop} {v:Value} {l:List St} (h:StsRd w P v l) (k:Nat) (hk:k < l.length):∃ b off cap sv,v = .slice (some ⟨b,off,none⟩) l.length cap ∧ P b ∧ NodesIn w P l[k].job.nodes sv ∧ ∀ j,j < 9 → w.cell? ⟨b,off + k * 9 + j,none⟩ = (stC l[k] sv)[j]? := by
 obtain ⟨a,cap,hv,h1,h2,h3⟩:=h
 rcases h3 with h3 | ⟨b,off,rfl,hb,hc⟩
 ·omega
 ·obtain ⟨sv,hn,hcs⟩:=hc k hk
  exact ⟨b,off,cap,sv,hv,hb,hn,hcs⟩
structure RoAt (w:World) (M P:Nat → Prop) (R L:Nat) (r:Rdw) (D:Nat) (d:Dk):Prop where
 phase:r.phase < 4
 ok:∀ x ∈ r.l,x.Ok
 len:r.l.length ≤ r.lg.l.length
 mem:M R
 lt:∀ b,M b → b < w.heap.size
 dis:∀ b,P b → b < w.heap.size ∧ ¬ M b
 ex:∃ (ML:Nat → Prop) (lv:Value),LgAt w ML L r.lg D d ∧ (∀ b,ML b → M b ∧ b ≠ R ∧ ¬ rowB lv b) ∧ Blk w R 106 #[px L,lv, .int .u8 (r.phase:Int)] ∧ StsAt w P lv r.l ∧ ∀ b,rowB lv b → M b ∧ b ≠ R
def RoTo (w w':World) (M P:Nat → Prop) (R L:Nat) (r':Rdw) (D:Nat) (d':Dk):Prop:=Fr M w w' ∧ ∃ N,(∀ b,N b → M b ∨ w.heap.size ≤ b) ∧ RoAt w' N P R L r' D d'
namespace RoAt
variable {w w':World} {M N P Q:Nat → Prop} {R L D:Nat} {r:Rdw} {d:Dk}
theorem keep (h:RoAt w M P R L r D d) (hs:w.heap.size ≤ w'.heap.size) (hk:∀ b,M b ∨ P b → w'.heap[b]? = w.heap[b]?):RoAt w' M P R L r D d:=by
 obtain ⟨ML,lv,h1,h2,h3,h4,h5⟩:=h.ex
 exact ⟨h.phase,h.ok,h.len,h.mem,fun b hb => Nat.lt_of_lt_of_le (h.lt b hb) hs,fun b hb => ⟨Nat.lt_of_lt_of_le (h.dis b hb).1 hs,(h.dis b hb).2⟩,ML,lv,h1.keep hs fun b hb => hk b (.inl (h2 b hb).1),h2,(hk R (.inl h.mem)).trans h3,h4.keep (fun _ k => k) (fun b hb => hk b (.inr hb)) (fun b hb => hk b (.inl (h5 b hb).1)),h5⟩
theorem below (h:RoAt w M P R L r D d) (hb:Below w.heap.size w w'):RoAt w' M P R L r D d:=h.keep hb.size fun b hm => hb.block b (by rcases hm with hm | hm; exact h.lt b hm; exact (h.dis b hm).1)
theorem fr {S:Nat → Prop} (h:RoAt w M P R L r D d) (hf:Fr S w w') (hS:∀ b,M b ∨ P b → ¬ S b):RoAt w' M P R L r D d:=h.keep hf.size fun b hm => hf.block b (by rcases hm with hm | hm; exact h.lt b hm; exact (h.dis b hm).1) (hS b hm)
theorem tos (h:RoAt w M P R L r D d):RoTo w w M P R L r D d:=⟨Fr.refl _ _,M,fun _ hb => .inl hb,h⟩
theorem toB (h:RoAt w M P R L r D d) (hb:Below w.heap.size w w'):RoTo w w' M P R L r D d:=⟨Fr.of_new hb,M,fun _ hb => .inl hb,h.below hb⟩
theorem more (h:RoAt w M P R L r D d) (hPQ:∀ b,P b → Q b) (hQ:∀ b,Q b → b < w.heap.size ∧ ¬ M b):RoAt w M Q R L r D d:=by
 obtain ⟨ML,lv,h1,h2,h3,h4,h5⟩:=h.ex
 exact ⟨h.phase,h.ok,h.len,h.mem,h.lt,hQ,ML,lv,h1,h2,h3,h4.keep hPQ (fun _ _ => rfl) (fun _ _ => rfl),h5⟩
theorem disk (h:RoAt w M P R L r D d):∃ MD,DkAt w MD D d ∧ (∀ b,MD b → M b):=by
 obtain ⟨ML,lv,h1,h2,_⟩:=h.ex
 obtain ⟨MD,h6,h7⟩:=h1.disk
 exact ⟨MD,h6,fun b hb => (h2 b (h7 b hb)).1⟩
theorem ltR (h:RoAt w M P R L r D d):R < w.heap.size:=h.lt R h.mem
theorem step (h:RoAt w M P R L r D d) {ML:Nat → Prop} {lv:Value} (h1:LgAt w ML L r.lg D d) (h2:∀ b,ML b → M b ∧ b ≠ R ∧ ¬ rowB lv b) (h3:Blk w R 106 #[px L,lv, .int .u8 (r.phase:Int)]) (h4:StsAt w P lv r.l) (h5:∀ b,rowB lv b → M b ∧ b ≠ R)
  {g':Lg} {d':Dk} (hT:LgTo w w' ML L g' D d') (hl:r.l.length ≤ g'.l.length):RoTo w w' M P R L ⟨g',r.l,r.phase⟩ D d':=by
 obtain ⟨hf,K,hK,hd'⟩:=hT
 have e:∀ b,b < w.heap.size → ¬ ML b → w'.heap[b]? = w.heap[b]? := fun b hb hn => hf.block b hb hn
 refine ⟨hf.mono (fun b _ hb => (h2 b hb).1),fun b => M b ∨ K b,fun b hb => ?_,h.phase,h.ok,hl, .inl h.mem,fun b hb => ?_,fun b hb => ⟨Nat.lt_of_lt_of_le (h.dis b hb).1 hf.size, ?_⟩,K,lv,hd',fun b hb => ?_, ?_, ?_,fun b hb => ?_⟩
 ·rcases hb with hb | hb
  ·exact .inl hb
  ·rcases hK b hb with hb | hb
   ·exact .inl (h2 b hb).1
   ·exact .inr hb
 ·rcases hb with hb | hb
  ·have:=h.lt b hb; have:=hf.size; omega
  ·exact hd'.lt b hb
 ·rintro (hm | hm)
  ·exact (h.dis b hb).2 hm
  ·rcases hK b hm with hm | hm
   ·exact (h.dis b hb).2 (h2 b hm).1
   ·have:=(h.dis b hb).1; omega
 ·refine ⟨.inr hb, ?_, ?_⟩
  ·rcases hK b hb with hb | hb
   ·exact (h2 b hb).2.1
   ·have:=h.ltR; omega
  ·intro hr
   rcases hK b hb with hb | hb
   ·exact (h2 b hb).2.2 hr
   ·have:=h.lt b (h5 b hr).1; omega
 ·exact (e R h.ltR (fun hm => (h2 R hm).2.1 rfl)).trans h3
 ·exact h4.keep (fun _ k => k) (fun b hb => e b (h.dis b hb).1 (fun hm => (h.dis b hb).2 (h2 b hm).1)) (fun b hb => e b (h.lt b (h5 b hb).1) (fun hm => (h2 b hm).2.2 hb))
 ·exact ⟨.inl (h5 b hb).1,(h5 b hb).2⟩
end RoAt
theorem RoTo.trans {w w1 w2:World} {M P:Nat → Prop} {R L D:Nat} {r1 r2:Rdw} {d1 d2:Dk} (h:RoTo w w1 M P R L r1 D d1) (k:∀ N,RoAt w1 N P R L r1 D d1 → RoTo w1 w2 N P R L r2 D d2):RoTo w w2 M P R L r2 D d2:=by
 obtain ⟨hf,N,hN,h1⟩:=h
 obtain ⟨hf2,N2,hN2,h2⟩:=k N h1
 refine ⟨hf.step hf2 (fun _ _ h => h) (fun i hi hn => ?_),N2,fun b hb => ?_,h2⟩
 ·rcases hN i hn with h | h
  ·exact h
  ·omega
 ·rcases hN2 b hb with h | h
  ·rcases hN b h with h | h
   ·exact .inl h
   ·exact .inr h
  ·exact .inr (Nat.le_trans hf.size h)
theorem RoTo.join {w w1 w2:World} {M N P:Nat → Prop} {R L D:Nat} {r:Rdw} {d:Dk} (hf:Fr M w w1) (hN:∀ b,N b → M b ∨ w.heap.size ≤ b) (h:RoTo w1 w2 N P R L r D d):RoTo w w2 M P R L r D d:=by
 obtain ⟨hf2,N2,hN2,h2⟩:=h
 refine ⟨hf.step hf2 (fun _ _ h => h) (fun i hi hn => ?_),N2,fun b hb => ?_,h2⟩
 ·rcases hN i hn with h | h
  ·exact h
  ·omega
 ·rcases hN2 b hb with h | h
  ·exact hN b h
  ·exact .inr (Nat.le_trans hf.size h)
theorem RoTo.drew {w w':World} {M P:Nat → Prop} {R L D:Nat} {r:Rdw} {d:Dk} (h:RoTo w w' M P R L r D d):RoTo w w'.drew M P R L r D d :=
 let ⟨hf,N,hN,h1⟩:=h; ⟨hf.drew,N,hN,h1.keep (Nat.le_refl _) fun _ _ => rfl⟩
theorem RoTo.of_below {w w1 w':World} {M P:Nat → Prop} {R L D:Nat} {r:Rdw} {d:Dk} (hb:Below w.heap.size w w1) (h:RoTo w1 w' M P R L r D d):RoTo w w' M P R L r D d :=
 let ⟨hf,N,hN,h1⟩:=h; ⟨(Fr.of_new hb).trans hf,N,fun b q => (hN b q).imp id (fun e => Nat.le_trans hb.size e),h1⟩
theorem RoTo.undrew {w w':World} {M P:Nat → Prop} {R L D:Nat} {r:Rdw} {d:Dk} (h:RoTo w.drew w' M P R L r D d):RoTo w w' M P R L r D d:=⟨h.1.undrew,h.2⟩
theorem RoAt.grow {w w2 w3:World} {M P:Nat → Prop} {R L D q cap p:Nat} {r:Rdw} {d:Dk} {ML:Nat → Prop} {lv sv:Value} {x:St} {ps:List (St × Value)} (h:RoAt w M P R L r D d) (h1:LgAt w ML L r.lg D d) (h2:∀ b,ML b → M b ∧ b ≠ R ∧ ¬ rowB lv b)
  (h5:∀ b,rowB lv b → M b ∧ b ≠ R) (hps:ps.map Prod.fst = r.l) (hown:w.ownsRow 0 29 9 lv r.l.length (rowS ps)) (hpn:∀ p ∈ ps,NodesIn w P p.1.job.nodes p.2) (hxn:NodesIn w P x.job.nodes sv) (hx:x.Ok) (hlen:r.l.length < r.lg.l.length) (hp:p < 4)
  (hgrow:w.grownBy w2 lv.ownBlock) (hat:lv.ownBlock = some q ∨ q = w.heap.size) (hlt:q < w2.heap.size) (hown2:w2.ownsRow 0 29 9 (.slice (some ⟨q,0,none⟩) (r.l.length + 1) cap) (r.l.length + 1) (rowS ps ++ (stC x sv).toList))
  (hb:Blk w3 R 106 #[px L, .slice (some ⟨q,0,none⟩) (r.l.length + 1) cap, .int .u8 (p:Int)]) (hf3:Fr (· = R) w2 w3):RoTo w w3 M P R L ⟨r.lg,r.l ++ [x],p⟩ D d:=by
 have hRl:=h.ltR
 have hs2:=hgrow.size
 have hs3:=hf3.size
 have hrow:∀ b,lv.ownBlock = some b → rowB lv b:=by
  intro b hq
  rcases hown.2 with ⟨rfl,_⟩ | ⟨g',cap',cur,rfl,_⟩
  ·simp [Value.ownBlock] at hq
  ·simp [Value.ownBlock] at hq
   subst hq
   exact ⟨_,_,_,rfl⟩
 have hqR:q ≠ R:=by
  rcases hat with hat | hat
  ·exact (h5 q (hrow q hat)).2
  ·omega
 have keep:∀ b,b < w.heap.size → b ≠ R → lv.ownBlock ≠ some b → w3.heap[b]? = w.heap[b]? := fun b hbl hbR hbo => by
  rw [hf3.block b (by omega) hbR,hgrow.block b (by omega) (fun e => hbo e.symm)]
 have keepP:∀ b,P b → w3.heap[b]? = w.heap[b]? := fun b hb => keep b (h.dis b hb).1 (fun e => (h.dis b hb).2 (e ▸ h.mem)) (fun e => (h.dis b hb).2 (h5 b (hrow b e)).1)
 have fB:Fr M w w2:=⟨hgrow.os,hgrow.tape,hgrow.output,hgrow.size,fun k hk hn => hgrow.block k hk (fun e => hn (h5 k (hrow k e.symm)).1)⟩
 have fC:Fr (fun b => M b ∨ w.heap.size ≤ b) w2 w3:=hf3.mono (fun k _ e => .inl (e ▸ h.mem))
 refine ⟨fB.step fC (fun _ _ h => h) (fun i hi h => by rcases h with h | h; exact h; omega),fun b => M b ∨ b = q,fun b hb => ?_,hp, ?_, ?_, .inl h.mem, ?_, ?_,ML,_, ?_, ?_,hb, ?_, ?_⟩
 ·rcases hb with hb | rfl
  ·exact .inl hb
  ·rcases hat with hat | hat
   ·exact .inl (h5 b (hrow b hat)).1
   ·exact .inr (by omega)
 ·intro y hy
  rcases List.mem_append.1 hy with hy | hy
  ·exact h.ok y hy
  ·rw [List.mem_singleton.1 hy]; exact hx
 ·show (r.l ++ [x]).length ≤ r.lg.l.length
  rw [List.length_append]
  exact hlen
 ·rintro b (hb | rfl)
  ·have:=h.lt b hb; omega
  ·omega
 ·intro b hP
  have:=(h.dis b hP).1
  refine ⟨by omega, ?_⟩
  rintro (hm | hm)
  ·exact (h.dis b hP).2 hm
  ·rcases hat with hat | hat
   ·exact (h.dis b hP).2 (h5 b (hrow b (hat.trans (congrArg some hm.symm)))).1
   ·omega
 ·exact h1.keep (by omega) fun b hb => keep b (h1.lt b hb) (h2 b hb).2.1 (fun e => (h2 b hb).2.2 (hrow b e))
 ·intro b hb
  refine ⟨.inl (h2 b hb).1,(h2 b hb).2.1, ?_⟩
  rintro ⟨o,n,c,e⟩
  simp only [Value.slice.injEq,Option.some.injEq,Addr.mk.injEq] at e
  obtain ⟨⟨rfl,_⟩,_⟩:=e
  rcases hat with hat | hat
  ·exact (h2 q hb).2.2 (hrow q hat)
  ·have:=h1.lt q hb; omega
 ·refine ⟨ps ++ [(x,sv)],by rw [List.map_append,hps]; rfl, ?_,fun z hz => ?_⟩
  ·rw [rowS_snoc,List.length_append]
   exact ownsRow_keep hown2 fun g hg => by
    obtain ⟨o,n,c,e⟩:=hg
    simp only [Value.slice.injEq,Option.some.injEq,Addr.mk.injEq] at e
    obtain ⟨⟨rfl,_⟩,_⟩:=e
    exact hf3.block q hlt hqR
  ·rcases List.mem_append.1 hz with hz | hz
   ·exact (hpn z hz).keep (fun _ k => k) keepP
   ·rw [List.mem_singleton.1 hz]; exact hxn.keep (fun _ k => k) keepP
 ·rintro b ⟨o,n,c,e⟩
  simp only [Value.slice.injEq,Option.some.injEq,Addr.mk.injEq] at e
  obtain ⟨⟨rfl,_⟩,_⟩:=e
  exact ⟨.inr rfl,hqR⟩
theorem info_step:(Tryz.prog.info? 29).map (fun i => (i.zero,i.size,i.bytes)) = some (some (.agg #[.int .u8 0, .int .i64 0, .int .i64 0, .int .i64 0, .int .i64 0, .slice none 0 0, .int .i64 0, .int .i64 0, .int .i64 0]),9,88):=by kernel_rfl
theorem stC_one (x:St) (a:Option Addr) (n c:Nat):∀ v ∈ (stC x (.slice a n c)).toList,v.oneCell' = true:=by
 intro v hv
 simp only [stC,List.mem_cons,List.not_mem_nil,or_false] at hv
 rcases hv with rfl | rfl | rfl | rfl | rfl | rfl | rfl | rfl | rfl <;> rfl
theorem nextP_lt (p k:Nat):(nextP p k).1 < 4:=by
 unfold nextP
 dsimp only
 split
 ·decide
 split
 ·decide
 split <;> decide
theorem RoAt.frs_len {w:World} {M P:Nat → Prop} {R L D:Nat} {r:Rdw} {d:Dk} (h:RoAt w M P R L r D d):r.l.length ≤ 4194304:=by
 obtain ⟨ML,lv,h1,h2,h3,h4,h5⟩:=h.ex
 obtain ⟨MD,hd,_⟩:=h1.disk
 have:=h1.bound hd.inv
 have:=frs_count r.lg.l
 have:=h.len
 omega
set_option maxRecDepth 100000 in
set_option maxHeartbeats 4000000 in
theorem roTakes_c (w:World) (M P:Nat → Prop) (R L:Nat) (r:Rdw) (D:Nat) (d:Dk) (h:RoAt w M P R L r D d) (x:St) (v:Value) (hv:StIn w P v x) (hok:x.Ok) (hk0:1 ≤ x.kind) (hk1:x.kind ≤ 6) (hlen:r.l.length < r.lg.l.length) :
  Calls Tryz.prog 59 #[px R,v] w fun e w' => e = .returned (.bool (nextP r.phase x.kind).2) ∧ RoTo w w' M P R L (if (nextP r.phase x.kind).2 = true then ⟨r.lg,r.l ++ [x],(nextP r.phase x.kind).1⟩ else r) D d:=by
 obtain ⟨ML,lv,h1,h2,h3,h4,h5⟩:=h.ex
 obtain ⟨sv,rfl,hn⟩:=hv
 obtain ⟨ps,hp1,hp2,hp3⟩:=h4
 have hph:=h.phase
 have HN:Hid (∀ W:World,Calls Tryz.prog 60 #[.int .u8 (r.phase:Int), .int .u8 (x.kind:Int)] W fun e w' => e = .returned (.tuple #[.int .u8 ((nextP r.phase x.kind).1:Nat), .bool (nextP r.phase x.kind).2]) ∧ Below W.heap.size W w'):=fun W => roNext_c r.phase x.kind (by omega) hk0 hk1 W
 have HNL:=Lib.hid (nextP_lt r.phase x.kind)
 generalize nextP r.phase x.kind = nx at *
 obtain ⟨np,nb⟩:=nx
 dsimp only at HN HNL
 have hrl:=h.frs_len
 have hA:=(Below.refl w.heap.size w).alloc (Nat.le_refl _) (.cells (stC x sv) 29)
 have hbx:=Blk.new w (stC x sv) 29
 have hbR:=h3.below hA h.ltR
 have HH:=Lib.hid h
 have H1:=Lib.hid h1
 have H2:=Lib.hid h2
 have H3:=Lib.hid h3
 have H5:=Lib.hid h5
 have HP1:=Lib.hid hp1
 have HP2:=Lib.hid hp2
 have HP3:=Lib.hid hp3
 have HNN:=Lib.hid hn
 have HOK:=Lib.hid hok
 have HLN:=Lib.hid hlen
 have HRL:=Lib.hid h.ltR
 obtain ⟨a,cap,hsv,hcap,hmx⟩:=hn.slice
 obtain ⟨la,lcap,hlv,hlc,hlm⟩:=(show StsAt w P lv r.l from ⟨ps,hp1,hp2,hp3⟩).slice
 subst hsv hlv
 clear h h1 h2 h3 h5 hp1 hp2 hp3 hn hok hlen hk0 hk1
 unfold px
 have c2:=hbR.cell 2
 have x0:(w.alloc (.cells (stC x (.slice a x.job.nodes.length cap)) 29)).cell? ⟨w.heap.size,0,none⟩ = some (.int .u8 (x.kind:Int)):=hbx.cell 0
 unfold stC at hA hbx hbR c2 x0 ⊢
 go_enter Tryz.func59,Tryz.ntmps59
 go_upto_region 1 with fail
 generalize World.alloc w _ = W1 at *
 go_cut [5,6] (fun s5 s6 wx => s5 = .int .u8 (np:Int) ∧ s6 = .bool nb ∧ Below W1.heap.size W1 wx)
 case first =>
  go_region_with (first | (go_at_call 60; refine (HN.out W1.drew).mono ?_; rintro e w2 ⟨rfl,hb2⟩))
  all_goals
   go_wp2_with fail
   go_meet
   exact ⟨rfl,rfl,(Below.refl W1.heap.size W1).drew.trans hb2⟩
 case rest =>
 obtain ⟨rfl,rfl,hb⟩:=hcut
 have hbw:=hA.trans (hb.mono hA.size)
 cases nb
 ·go_wp2_with fail
  go_ret
  exact ⟨rfl,HH.out.toB hbw⟩
 ·have hbx2:=hbx.below hb hbx.lt
  have hbR2:=hbR.below hb (by have:=hA.size; have:=HRL.out; omega)
  have hk:∀ b,b < w.heap.size → wc.heap[b]? = w.heap[b]? := fun b q => hbw.block b q
  have HO2:Hid (wc.ownsRow 0 29 9 (.slice la r.l.length lcap) r.l.length (rowS ps)):=ownsRow_keep HP2.out fun g hg => hk g (HH.out.lt g (H5.out g hg).1)
  obtain ⟨i0,hi,hz0,hz1,hz2⟩:=info_parts info_step
  have HOA:Hid (World.ownsRow (World.drew (wc.alloc (.cells #[.int .u8 (x.kind:Int), .int .i64 x.n, .int .i64 x.cut, .int .i64 x.too, .int .i64 x.job.par, .slice a x.job.nodes.length cap, .int .i64 x.part, .int .i64 x.at_, .int .i64 x.why] 29))) 0 29 9 (.slice la r.l.length lcap) r.l.length (rowS ps)):=HO2.out.alloc _
  have HNA:Hid (∀ j u',([.int .u8 (x.kind:Int), .int .i64 x.n, .int .i64 x.cut, .int .i64 x.too, .int .i64 x.job.par, .slice a x.job.nodes.length cap, .int .i64 x.part, .int .i64 x.at_, .int .i64 x.why]:List Value)[j]? = some u' → (World.drew (wc.alloc (.cells #[.int .u8 (x.kind:Int), .int .i64 x.n, .int .i64 x.cut, .int .i64 x.too, .int .i64 x.job.par, .slice a x.job.nodes.length cap, .int .i64 x.part, .int .i64 x.at_, .int .i64 x.why] 29))).cell? ((⟨wc.heap.size,0,none⟩:Addr).add j) = some u'):=World.news_of_block (heap_alloc_new wc _)
  have HONE:=Lib.hid (stC_one x a x.job.nodes.length cap)
  have HBX:Hid (Below wc.heap.size wc (World.drew (wc.alloc (.cells #[.int .u8 (x.kind:Int), .int .i64 x.n, .int .i64 x.cut, .int .i64 x.too, .int .i64 x.job.par, .slice a x.job.nodes.length cap, .int .i64 x.part, .int .i64 x.at_, .int .i64 x.why] 29)))):=((Below.refl wc.heap.size wc).alloc (Nat.le_refl _) _).drew
  have HBRA:Hid (Blk (World.drew (wc.alloc (.cells #[.int .u8 (x.kind:Int), .int .i64 x.n, .int .i64 x.cut, .int .i64 x.too, .int .i64 x.job.par, .slice a x.job.nodes.length cap, .int .i64 x.part, .int .i64 x.at_, .int .i64 x.why] 29))) R 106 #[px L, .slice la r.l.length lcap, .int .u8 (r.phase:Int)]):=hbR2.alloc _
  have hro:∀ q,(Value.slice la r.l.length lcap).ownBlock = some q → q ≠ R:=by
   intro q hq
   rcases HP2.out.2 with ⟨e,_⟩ | ⟨g',cap',cur,e,_⟩
   ·rw [e] at hq; simp [Value.ownBlock] at hq
   ·rw [e] at hq
    simp [Value.ownBlock] at hq
    subst hq
    exact (H5.out g' ⟨_,_,_,e⟩).2
  have HRO:=Lib.hid hro
  have HBW:=Lib.hid hbw
  have hx0:=hbx2.cell 0
  have hx1:=hbx2.cell 1
  have hx2:=hbx2.cell 2
  have hx3:=hbx2.cell 3
  have hx4:=hbx2.cell 4
  have hx5:=hbx2.cell 5
  have hx6:=hbx2.cell 6
  have hx7:=hbx2.cell 7
  have hx8:=hbx2.cell 8
  have k1:=hbR2.cell 1
  have k2:=hbR2.cell 2
  have m1:=hbR2.free 1
  have m2:=hbR2.free 2
  have hlR:=hbR2.lt
  clear hbx hbx2 hbR hbR2 hb hbw hA hk hro c2 x0 HO2
  go_upto_region 3 with fail
  go_region_law (first
   | (refine step_append_lies _ (by rfl) _ _ _ (by rfl) 0 29 i0 (.agg #[.int .u8 0, .int .i64 0, .int .i64 0, .int .i64 0, .int .i64 0, .slice none 0 0, .int .i64 0, .int .i64 0, .int .i64 0]) 9 88 Tryz.underlying22 hi hz0 hz1 hz2 rfl (by decide) _ r.l.length (rowS ps) (by rfl) HOA.out ⟨wc.heap.size,0,none⟩ 1 1 [.int .u8 (x.kind:Int), .int .i64 x.n, .int .i64 x.cut, .int .i64 x.too, .int .i64 x.job.par, .slice a x.job.nodes.length cap, .int .i64 x.part, .int .i64 x.at_, .int .i64 x.why] (by rfl) rfl HNA.out HONE.out (by decide) (by unfold maxLen; omega) (by omega) (Nat.zero_le _) _ rfl ?_; intro q cap4 w4 hown4 hgrow4 hat4 hlt4; have hb4:=HBRA.out.grown hgrow4 (fun e => HRO.out _ e.symm rfl); have c41:=hb4.cell 1; have f41:=hb4.free 1; have c42:=hb4.cell 2; have f42:=hb4.free 2))
  all_goals
   have HB4:=Lib.hid hb4
   have HG4:=Lib.hid hgrow4
   have HT4:=Lib.hid hat4
   have HL4:=Lib.hid hlt4
   have HW4:=Lib.hid hown4
   clear hb4 hgrow4 hat4 hlt4 hown4 HNA HOA HONE HBRA HRO HN hx0 hx1 hx2 hx3 hx4 hx5 hx6 hx7 hx8 k1 k2 m1 m2 c41 c42 f41 f42
   try go_wp2_with fail
   go_ret
   have hbx:=HBW.out.trans (HBX.out.mono HBW.out.size)
   have kP:∀ b,P b → _:=fun b q => hbx.block b (HH.out.dis b q).1
   refine ⟨rfl,((((HH.out.below hbx).grow (H1.out.below hbx) H2.out H5.out HP1.out (ownsRow_keep HP2.out fun g hg => hbx.block g (HH.out.lt g (H5.out g hg).1)) (fun p hp => (HP3.out p hp).keep (fun _ k => k) kP) (HNN.out.keep (fun _ k => k) kP) HOK.out HLN.out HNL.out
    HG4.out HT4.out HL4.out HW4.out ((HB4.out.set 1 _).set 2 _) (((Fr.refl (fun x => x = R) w4).setCell (p:=⟨R,1,none⟩) (.inl rfl) _).setCell (p:=⟨R,2,none⟩) (.inl rfl) _))).of_below hbx)⟩
structure OpenR (w:World) (M:Nat → Prop) (g:Lg) (R L D:Nat) (d1:Dk) (k:Nat) (N P:Nat → Prop) (r:Rdw) (wr:World):Prop where
 ro:RoAt wr N P R L r D d1
 lg:r.lg = g
 len:r.l.length = k
 takes:Rdw.takes (g.l.drop k) r.l r.phase = Rdw.takes g.l [] 0
 fr:Fr M w wr
 hN:∀ b,N b → M b ∨ w.heap.size ≤ b
 hP:∀ b,P b → w.heap.size ≤ b
theorem lgOpen_err (d:Dk) (f:Nat):(Lg.open d f).2.1 = none → (Lg.open d f).2.2 ≠ 0:=by
 unfold Lg.open
 split
 ·intro _; show (50:Int) ≠ 0; decide
 split
 ·split
  ·intro _; assumption
  split
  ·intro _; assumption
  ·intro h; exact absurd h (by simp)
 ·intro h; exact absurd h (by simp)
theorem RoAt.new {w1:World} {N:Nat → Prop} {L D:Nat} {g:Lg} {d:Dk} (h:LgAt w1 N L g D d):RoAt (w1.alloc (.cells #[px L, .slice none 0 0, .int .u8 0] 106)) (fun b => N b ∨ b = w1.heap.size) (fun _ => False) w1.heap.size L ⟨g,[],0⟩ D d:=by
 refine ⟨by show 0 < 4; decide,by simp,Nat.zero_le _, .inr rfl, ?_,fun b hb => hb.elim,N, .slice none 0 0,h.keep (by simp) fun b hb => alloc_old w1 _ b (h.lt b hb),fun b hb => ⟨.inl hb, ?_, ?_⟩,Blk.new w1 _ _,StsAt.nil _ _, ?_⟩
 ·rintro b (hb | rfl)
  ·have:=h.lt b hb; simp; omega
  ·simp
 ·have:=h.lt b hb; omega
 ·rintro ⟨o,n,c,e⟩; simp at e
 ·rintro b ⟨o,n,c,e⟩; simp at e
def OpenPost (w:World) (M:Nat → Prop) (D:Nat) (o:Dk × Option Rdw × Int) (e:Ending) (w':World):Prop :=
 (∃ e1,o.2 = (none,e1) ∧ e1 ≠ 0 ∧ e = .returned (.tuple #[.pointer none, .int .i64 e1]) ∧ DkTo w w' M D o.1) ∨
 (∃ r R L N P,o.2 = (some r,0) ∧ e = .returned (.tuple #[px R, .int .i64 0]) ∧ Fr M w w' ∧ RoAt w' N P R L r D o.1 ∧ (∀ b,N b → M b ∨ w.heap.size ≤ b) ∧ ∀ b,P b → w.heap.size ≤ b)
theorem OpenR.bad {w wr w':World} {M N P:Nat → Prop} {g:Lg} {R L D k:Nat} {d1:Dk} {r:Rdw} {o:Dk × Option Rdw × Int} (h:OpenR w M g R L D d1 k N P r wr) (ho:o = (d1,none,260)) (hb:Below wr.heap.size wr w'):OpenPost w M D o (.returned (.tuple #[.pointer none, .int .i64 260])) w':=by
 subst ho
 obtain ⟨MD,hd,hM⟩:=(h.ro.below hb).disk
 exact .inl ⟨260,rfl,by decide,rfl,h.fr.trans (Fr.of_new hb),MD,fun b q => h.hN b (hM b q),hd⟩
set_option maxRecDepth 100000 in
set_option maxHeartbeats 4000000 in
theorem roOpen_c (w:World) (M:Nat → Prop) (D:Nat) (d:Dk) (h:DkAt w M D d) (hll:d.loose.length ≤ 1000000000) :
  Calls Tryz.prog 16 #[px D] w (OpenPost w M D (Rdw.open d)):=by
 have HLO:Hid (Calls Tryz.prog 55 #[px D, .int .i64 6] w fun e w' =>
   (∃ e1,(Lg.open d 6).2 = (none,e1) ∧ e = .returned (.tuple #[.pointer none, .int .i64 e1]) ∧ DkTo w w' M D (Lg.open d 6).1) ∨
   (∃ g L N,(Lg.open d 6).2 = (some g,0) ∧ e = .returned (.tuple #[px L, .int .i64 0]) ∧ Fr M w w' ∧ LgAt w' N L g D (Lg.open d 6).1 ∧ ∀ b,N b → M b ∨ w.heap.size ≤ b)):=lOpen_c w M D d h 6 (by decide) hll
 have HER:=Lib.hid (lgOpen_err d 6)
 have HE:Hid (Rdw.open d = match (Lg.open d 6).2.1 with
  | none => ((Lg.open d 6).1,none,(Lg.open d 6).2.2)
  | some g => ((Lg.open d 6).1,(Rdw.ofLog g).1,(Rdw.ofLog g).2)):=rfl
 generalize Rdw.open d = o at *
 generalize Lg.open d 6 = lo at *
 obtain ⟨d1,lg,le⟩:=lo
 dsimp only at HLO HER HE
 unfold px at HLO ⊢
 clear h hll
 go_enter Tryz.func16,Tryz.ntmps16
 go_upto_region 2 with (first | (go_at_call 55; refine HLO.out.mono ?_; rintro e w1 (⟨e1,h1,rfl,hT⟩ | ⟨g,L,N,h1,rfl,hf,hL,hN⟩)) | fail)
 ·simp only [Prod.mk.injEq] at h1
  obtain ⟨rfl,rfl⟩:=h1
  have hne:(le != 0) = true:=by have:=HER.out rfl; simpa using this
  go_wp2_with fail
  go_ret2
  refine .inl ⟨le, ?_,by simpa using hne,rfl, ?_⟩ <;> rw [HE.out]
  exact hT
 ·simp only [Prod.mk.injEq] at h1
  obtain ⟨rfl,rfl⟩:=h1
  have HE2:Hid (o = (d1,(Rdw.ofLog g).1,(Rdw.ofLog g).2)):=HE.out
  have HOF:Hid (Rdw.ofLog g = match Rdw.takes g.l [] 0 with
   | none => (none,260)
   | some (l,p) => (some ⟨g,l,p⟩,0)):=rfl
  have hro:=RoAt.new hL
  have hl1:w1.heap.size < (w1.alloc (.cells #[px L, .slice none 0 0, .int .u8 0] 106)).heap.size:=by simp
  have hOR:OpenR w M g w1.heap.size L D d1 0 _ _ ⟨g,[],0⟩ (w1.alloc (.cells #[px L, .slice none 0 0, .int .u8 0] 106)):=⟨hro,rfl,rfl,rfl,hf.alloc _,fun b hb => by
   rcases hb with hb | rfl
   ·exact hN b hb
   ·exact .inr hf.size,fun b hb => hb.elim⟩
  have HLE:Hid (∀ W,LgAt W N L g D d1 → Calls Tryz.prog 56 #[px L] W fun e w' => e = .returned (.int .i64 g.l.length) ∧ W = w'):=fun W h => lLen_c W N L g D d1 h
  have HLW:=Lib.hid (hL.keep (w':=w1.alloc (.cells #[px L, .slice none 0 0, .int .u8 0] 106)) (by simp) fun b hb => alloc_old w1 _ b (hL.lt b hb))
  have HLEN:=Lib.hid (HLE.out _ HLW.out)
  have HOR:=Lib.hid hOR
  have hgl:g.l.length ≤ 4194304:=by
   obtain ⟨MD,hd,_⟩:=hL.disk
   have:=hL.bound hd.inv
   have:=frs_count g.l
   omega
  have HREC:=Lib.hid hL.recs
  have HR0:w1.heap.size = w1.heap.size:=rfl
  generalize hRR:w1.heap.size = R at *
  clear HER HE HR0 hro hOR hf hN HLE HLW hL
  unfold px at HLEN HOR
  go_upto_region 5 with fail
  generalize World.alloc w1 _ = W1 at *
  go_upto_region 6 with (first | (go_at_call 56; refine HLEN.out.mono ?_; rintro e w2 ⟨rfl,rfl⟩) | fail)
  clear HLEN hl1
  go_loopw [26] (fun q wr => ∃ (k:Nat) (N P:Nat → Prop) (r:Rdw),q = .int .i64 (k:Int) ∧ k ≤ g.l.length ∧ OpenR w M g R L D d1 k N P r wr) (fun q _ => g.l.length - (intOf q).toNat)
  case atStart => exact ⟨0,_,_,_,rfl,Nat.zero_le _,HOR.out⟩
  case round =>
   obtain ⟨k,N1,P1,r,rfl,hk,hO⟩:=hrel
   have HO:=Lib.hid hO
   by_cases hlt:k < g.l.length
   ·have HAT:Hid (Calls Tryz.prog 57 #[px L, .int .i64 (k:Int)] wr fun e w' => e = .returned (.tuple #[.int .u8 (g.l[k].1:Nat), .string g.l[k].2, .int .i64 0]) ∧ Below wr.heap.size wr w'):=by
     obtain ⟨ML,lv,h1,h2,h3,h4,h5⟩:=hO.ro.ex
     have hrg:=hO.lg
     rw [hrg] at h1
     exact lAt_c wr ML L g D d1 h1 k hlt
    have hpok:=HREC.out g.l[k] (List.getElem_mem hlt)
    have HTK:Hid (Rdw.takes (g.l.drop k) r.l r.phase = match readSt g.l[k].1 g.l[k].2 with
     | none => none
     | some x => if (nextP r.phase x.kind).2 = true then Rdw.takes (g.l.drop (k + 1)) (r.l ++ [x]) (nextP r.phase x.kind).1 else none):=by
     show _ = _
     rw [List.drop_eq_getElem_cons hlt,Rdw.takes_cons]
     rfl
    have hdk:decide ((k:Int) < (g.l.length:Int)) = true:=decide_eq_true (by omega)
    generalize g.l[k]'hlt = f at *
    obtain ⟨fk,ft⟩:=f
    dsimp only at HAT HTK
    have HRD:Hid (∀ W,Calls Tryz.prog 58 #[.int .u8 (fk:Int), .string ft] W (ReadP fk ft W)):=fun W => roRead_c fk hpok.1 hpok.2.1 ft (Nat.le_trans hpok.2.2 (by decide)) W
    unfold ReadP at HRD
    unfold px at HAT
    have HGL:=Lib.hid hgl
    have HK:=Lib.hid hk
    have HLT:=Lib.hid hlt
    clear hO hpok hgl hk hlt
    generalize hrs:readSt fk ft = rs at *
    cases rs with
    | none =>
     dsimp only at HRD HTK
     go_upto_region 9 with (first | (go_at_call 57; refine HAT.out.mono ?_; rintro e w3 ⟨rfl,hb3⟩) | fail)
     go_upto_region 10 with (first | (go_at_call 58; refine (HRD.out _).mono ?_; rintro e w4 ⟨y,sa,sn,sc,b,rfl,hb4,rfl⟩; unfold stC) | fail)
     have hB4:=(hb3.trans (hb4.mono hb3.size)).alloc (Nat.le_trans hb3.size hb4.size) (.cells #[.int .u8 (y.kind:Int), .int .i64 y.n, .int .i64 y.cut, .int .i64 y.too, .int .i64 y.job.par, .slice sa sn sc, .int .i64 y.part, .int .i64 y.at_, .int .i64 y.why] 29)
     go_wp2_with fail
     go_ret2
     refine HO.out.bad ?_ hB4
     rw [HE2.out,HOF.out, ← HO.out.takes,HTK.out]
    | some x =>
     dsimp only at HRD HTK
     go_upto_region 9 with (first | (go_at_call 57; refine HAT.out.mono ?_; rintro e w3 ⟨rfl,hb3⟩) | fail)
     go_upto_region 10 with (first | (go_at_call 58; refine (HRD.out _).mono ?_; rintro e w4 ⟨y,sa,sn,sc,b,rfl,hb4,rfl,rfl,hxok,hxm,hxn⟩; unfold stC) | fail)
     have hB4:=(hb3.trans (hb4.mono hb3.size)).alloc (Nat.le_trans hb3.size hb4.size) (.cells #[.int .u8 (y.kind:Int), .int .i64 y.n, .int .i64 y.cut, .int .i64 y.too, .int .i64 y.job.par, .slice sa sn sc, .int .i64 y.part, .int .i64 y.at_, .int .i64 y.why] 29)
     have hxb:=Blk.new w4 #[.int .u8 (y.kind:Int), .int .i64 y.n, .int .i64 y.cut, .int .i64 y.too, .int .i64 y.job.par, .slice sa sn sc, .int .i64 y.part, .int .i64 y.at_, .int .i64 y.why] 29
     have hxn2:=hxn.keep (w':=w4.alloc (.cells #[.int .u8 (y.kind:Int), .int .i64 y.n, .int .i64 y.cut, .int .i64 y.too, .int .i64 y.job.par, .slice sa sn sc, .int .i64 y.part, .int .i64 y.at_, .int .i64 y.why] 29)) (Q:=fun b => P1 b ∨ (wr.heap.size ≤ b ∧ b < w4.heap.size)) (fun b q => .inr ⟨Nat.le_trans hb3.size q.1,q.2⟩) (fun b q => alloc_old w4 _ b q.2)
     have hsz5:(w4.alloc (.cells #[.int .u8 (y.kind:Int), .int .i64 y.n, .int .i64 y.cut, .int .i64 y.too, .int .i64 y.job.par, .slice sa sn sc, .int .i64 y.part, .int .i64 y.at_, .int .i64 y.why] 29)).heap.size = w4.heap.size + 1:=by simp
     generalize World.alloc w4 _ = W5 at *
     have x0:=hxb.cell 0
     have x1:=hxb.cell 1
     have x2:=hxb.cell 2
     have x3:=hxb.cell 3
     have x4:=hxb.cell 4
     have x5:=hxb.cell 5
     have x6:=hxb.cell 6
     have x7:=hxb.cell 7
     have x8:=hxb.cell 8
     have hmk:=St.may_kind hxm
     have hro5:=(HO.out.ro.below hB4).more (Q:=fun b => P1 b ∨ (wr.heap.size ≤ b ∧ b < w4.heap.size)) (fun b q => .inl q) (fun b q => by
      rcases q with q | q
      ·have hd:=HO.out.ro.dis b q; have:=hB4.size; exact ⟨by omega,hd.2⟩
      ·exact ⟨by omega,fun hm => by have:=HO.out.ro.lt b hm; omega⟩)
     have HTA:=Lib.hid (roTakes_c W5 N1 _ R L r D d1 hro5 y _ ⟨_,rfl,hxn2⟩ hxok hmk.1 hmk.2 (by rw [HO.out.len,HO.out.lg]; exact HLT.out))
     unfold px stC at HTA
     have hrb:w.heap.size ≤ wr.heap.size:=HO.out.fr.size
     have HB4:=Lib.hid hB4
     clear hxb hxn hxn2 hro5 hB4 hb3 hb4 HRD HAT hmk hsz5
     generalize hnx:nextP r.phase y.kind = nx at *
     obtain ⟨np,nb⟩:=nx
     dsimp only at HTA HTK
     cases nb
     ·go_wp2_with (first | (go_at_call 59; refine HTA.out.mono ?_; rintro e w6 ⟨rfl,hT⟩) | fail)
      go_ret2
      obtain ⟨hf6,N6,hN6,hr6⟩:=hT
      rw [if_neg (by simp)] at hr6
      obtain ⟨MD,hd,hM⟩:=hr6.disk
      refine .inl ⟨260, ?_,by decide,rfl, ?_,MD,fun b q => ?_, ?_⟩
      ·rw [HE2.out,HOF.out, ← HO.out.takes,HTK.out]; rfl
      ·exact (HO.out.fr.trans (Fr.of_new HB4.out)).step hf6 (fun _ _ h => h) (fun i hi h => by
        rcases HO.out.hN i h with h | h
        ·exact h
        ·omega)
      ·rcases hN6 b (hM b q) with h | h
       ·exact HO.out.hN b h
       ·exact .inr (Nat.le_trans hrb (Nat.le_trans HB4.out.size h))
      ·rw [HE2.out]; exact hd
     ·have hlt:=HLT.out
      have hgl:=HGL.out
      go_wp2_with (first | (go_at_call 59; refine HTA.out.mono ?_; rintro e w6 ⟨rfl,hT⟩) | fail)
      obtain ⟨hf6,N6,hN6,hr6⟩:=hT
      rw [if_pos trivial] at hr6
      go_roundw
      case rel =>
       refine ⟨k + 1,N6,_,_,by go_num,HLT.out,hr6,HO.out.lg, ?_, ?_, ?_, ?_, ?_⟩
       ·show (r.l ++ [y]).length = k + 1
        rw [List.length_append,HO.out.len]; rfl
       ·rw [← HO.out.takes,HTK.out,if_pos trivial]
       ·exact (HO.out.fr.trans (Fr.of_new HB4.out)).step hf6 (fun _ _ h => h) (fun i hi h => by
         rcases HO.out.hN i h with h | h
         ·exact h
         ·omega)
       ·intro b q
        rcases hN6 b q with h | h
        ·exact HO.out.hN b h
        ·exact .inr (Nat.le_trans hrb (Nat.le_trans HB4.out.size h))
       ·rintro b (q | q)
        ·exact HO.out.hP b q
        ·exact Nat.le_trans hrb q.1
      case measure => simp [intOf]; omega
   ·have hkk:k = g.l.length:=by omega
    have hdk:decide ((k:Int) < (g.l.length:Int)) = false:=decide_eq_false (by omega)
    go_wp2_with fail
    go_ret2
    refine .inr ⟨r,R,L,N1,P1, ?_,rfl,hO.fr, ?_,hO.hN,hO.hP⟩
    ·have ht:=hO.takes
     rw [hkk,List.drop_length] at ht
     rw [HE2.out,HOF.out, ← ht]
     have:r = ⟨g,r.l,r.phase⟩:=by rw [← hO.lg]
     rw [this]; rfl
    ·rw [HE2.out]; exact hO.ro
theorem lput_len (d:Dk) (g:Lg) (k:Nat) (u:ByteArray):g.l.length ≤ (Lg.put d g k u).2.1.l.length ∧ ((Lg.put d g k u).2.2 = 0 → k ≠ 0 → u.size ≤ 65536 → (Lg.put d g k u).2.1.l.length = g.l.length + 1):=by
 unfold Lg.put
 split
 ·exact ⟨Nat.le_refl _,fun h => absurd h (by simp)⟩
 split
 ·exact ⟨Nat.le_refl _,fun h => absurd h (by simp)⟩
 split
 ·rename_i h
  exact ⟨Nat.le_refl _,fun e => absurd e h⟩
 ·exact ⟨by simp,fun _ _ _ => by simp⟩
theorem lsync_len (d:Dk) (g:Lg):(Lg.sync d g).2.1.l = g.l:=by
 unfold Lg.sync
 split
 ·rfl
 split <;> rfl
theorem RoAt.log {w:World} {M P:Nat → Prop} {R L D:Nat} {r:Rdw} {d:Dk} (h:RoAt w M P R L r D d):∃ ML:Nat → Prop,LgAt w ML L r.lg D d ∧ w.cell? ⟨R,0,none⟩ = some (px L) ∧
  ∀ w' g' d',LgTo w w' ML L g' D d' → r.l.length ≤ g'.l.length → RoTo w w' M P R L ⟨g',r.l,r.phase⟩ D d':=by
 obtain ⟨ML,lv,h1,h2,h3,h4,h5⟩:=h.ex
 exact ⟨ML,h1,h3.cell 0,fun w' g' d' hT hl => h.step h1 h2 h3 h4 h5 hT hl⟩
theorem RoAt.phase_cell {w:World} {M P:Nat → Prop} {R L D:Nat} {r:Rdw} {d:Dk} (h:RoAt w M P R L r D d):w.cell? ⟨R,2,none⟩ = some (.int .u8 (r.phase:Int)):=by
 obtain ⟨ML,lv,h1,h2,h3,h4,h5⟩:=h.ex
 exact h3.cell 2
theorem RoAt.ltP {w W:World} {M P:Nat → Prop} {R L D:Nat} {r:Rdw} {d:Dk} (h:RoAt w M P R L r D d) (hs:w.heap.size ≤ W.heap.size):∀ b,P b → b < W.heap.size:=fun b hb => Nat.lt_of_lt_of_le (h.dis b hb).1 hs
theorem roLogPut (W:World) (M P:Nat → Prop) (R L:Nat) (r:Rdw) (D:Nat) (d:Dk) (h:RoAt W M P R L r D d) (k:Nat) (u:ByteArray) (hk0:0 < k) (hk1:k < 256) (hu:u.size ≤ 65536) (hll:d.loose.length ≤ 1000000000) :
  Calls Tryz.prog 61 #[px L, .int .u8 (k:Int), .string u] W fun e w' => e = .returned (.int .i64 (Lg.put d r.lg k u).2.2) ∧ RoTo W w' M P R L ⟨(Lg.put d r.lg k u).2.1,r.l,r.phase⟩ D (Lg.put d r.lg k u).1:=by
 obtain ⟨ML,h1,_,h3⟩:=h.log
 refine (lPut_c W ML L r.lg D d h1 k u hk0 hk1 hu hll).mono ?_
 rintro e w' ⟨rfl,hT⟩
 exact ⟨rfl,h3 w' _ _ hT (Nat.le_trans h.len (lput_len d r.lg k u).1)⟩
theorem roLogSync (W:World) (M P:Nat → Prop) (R L:Nat) (r:Rdw) (D:Nat) (d:Dk) (h:RoAt W M P R L r D d) :
  Calls Tryz.prog 63 #[px L] W fun e w' => e = .returned (.int .i64 (Lg.sync d r.lg).2.2) ∧ RoTo W w' M P R L ⟨(Lg.sync d r.lg).2.1,r.l,r.phase⟩ D (Lg.sync d r.lg).1:=by
 obtain ⟨ML,h1,_,h3⟩:=h.log
 refine (lSync_c W ML L r.lg D d h1).mono ?_
 rintro e w' ⟨rfl,hT⟩
 exact ⟨rfl,h3 w' _ _ hT (by rw [lsync_len]; exact h.len)⟩
set_option maxRecDepth 100000 in
set_option maxHeartbeats 4000000 in
theorem roPut_c (w:World) (M P:Nat → Prop) (R L:Nat) (r:Rdw) (D:Nat) (d:Dk) (h:RoAt w M P R L r D d) (x:St) (v:Value) (hv:StIn w P v x) (hok:x.Ok) (hll:d.loose.length ≤ 1000000000) :
  Calls Tryz.prog 19 #[px R,v] w fun e w' => e = .returned (.int .i64 (Rdw.put d r x).2.2) ∧ RoTo w w' M P R L (Rdw.put d r x).2.1 D (Rdw.put d r x).1:=by
 obtain ⟨sv,rfl,hn⟩:=hv
 obtain ⟨a,cap,rfl,hcap,hmx⟩:=hn.slice
 have hA:=(Below.refl w.heap.size w).alloc (Nat.le_refl _) (.cells (stC x (.slice a x.job.nodes.length cap)) 29)
 have hbx:=Blk.new w (stC x (.slice a x.job.nodes.length cap)) 29
 have HXI:Hid (∀ W,Below w.heap.size w W → StIn W P (.agg (stC x (.slice a x.job.nodes.length cap))) x):=fun W hb => ⟨_,rfl,hn.keep (fun _ k => k) fun b q => hb.block b (h.dis b q).1⟩
 have HM:Hid (∀ W,Below w.heap.size w W → Calls Tryz.prog 20 #[.agg (stC x (.slice a x.job.nodes.length cap))] W fun e w' => e = .returned (.bool x.mayB) ∧ Below W.heap.size W w'):=fun W hb => roMay_c x hok _ W P (HXI.out W hb) (h.ltP hb.size)
 have HPE:Hid (Rdw.put d r x = if x.mayB = false then (d,r,2) else if (nextP r.phase x.kind).2 = false then (d,r,261) else
 if (Lg.put d r.lg x.kind x.text).2.2 ≠ 0 then ((Lg.put d r.lg x.kind x.text).1,⟨(Lg.put d r.lg x.kind x.text).2.1,r.l,r.phase⟩,(Lg.put d r.lg x.kind x.text).2.2) else
 ((Lg.sync (Lg.put d r.lg x.kind x.text).1 (Lg.put d r.lg x.kind x.text).2.1).1,⟨(Lg.sync (Lg.put d r.lg x.kind x.text).1 (Lg.put d r.lg x.kind x.text).2.1).2.1,r.l ++ [x],(nextP r.phase x.kind).1⟩,(Lg.sync (Lg.put d r.lg x.kind x.text).1 (Lg.put d r.lg x.kind x.text).2.1).2.2)):=rfl
 generalize Rdw.put d r x = R0 at *
 have HH:=Lib.hid h
 have HOK:=Lib.hid hok
 have HLL:=Lib.hid hll
 cases hm:x.mayB
 ·rw [hm,if_pos rfl] at HPE
  simp only [hm] at HM
  have HM1:=Lib.hid (HM.out _ hA)
  have HAA:=Lib.hid hA
  have x0:=hbx.cell 0
  have x1:=hbx.cell 1
  have x2:=hbx.cell 2
  have x3:=hbx.cell 3
  have x4:=hbx.cell 4
  have x5:=hbx.cell 5
  have x6:=hbx.cell 6
  have x7:=hbx.cell 7
  have x8:=hbx.cell 8
  unfold stC at HM1 HAA x0 x1 x2 x3 x4 x5 x6 x7 x8 ⊢
  unfold px
  clear h hm hok hn hA hbx HM HXI
  go_enter Tryz.func19,Tryz.ntmps19
  go_upto_region 1 with fail
  generalize World.alloc w _ = W1 at *
  go_wp2_with (first | (go_at_call 20; refine HM1.out.mono ?_; rintro e w2 ⟨rfl,hb2⟩) | fail)
  go_ret
  rw [HPE.out]
  exact ⟨rfl,HH.out.toB (HAA.out.trans (hb2.mono HAA.out.size))⟩
 rw [hm,if_neg (by decide)] at HPE
 simp only [hm] at HM
 have hmk:=St.may_kind hm
 have hts:=St.text_len hok hm
 have HNX:Hid (∀ W:World,Calls Tryz.prog 60 #[.int .u8 (r.phase:Int), .int .u8 (x.kind:Int)] W fun e w' => e = .returned (.tuple #[.int .u8 ((nextP r.phase x.kind).1:Nat), .bool (nextP r.phase x.kind).2]) ∧ Below W.heap.size W w'):=fun W => roNext_c r.phase x.kind (by have:=h.phase; omega) hmk.1 hmk.2 W
 have HTX:Hid (∀ W,Below w.heap.size w W → Calls Tryz.prog 62 #[.agg (stC x (.slice a x.job.nodes.length cap))] W fun e w' => e = .returned (.string x.text) ∧ Below W.heap.size W w'):=fun W hb => roText_c x hok hm _ W P (HXI.out W hb) (h.ltP hb.size)
 have HLP:Hid (∀ W,RoAt W M P R L r D d → Calls Tryz.prog 61 #[px L, .int .u8 (x.kind:Int), .string x.text] W fun e w' => e = .returned (.int .i64 (Lg.put d r.lg x.kind x.text).2.2) ∧ RoTo W w' M P R L ⟨(Lg.put d r.lg x.kind x.text).2.1,r.l,r.phase⟩ D (Lg.put d r.lg x.kind x.text).1) :=
  fun W hW => roLogPut W M P R L r D d hW x.kind x.text (by omega) (by omega) (by omega) hll
 have HTK:Hid (∀ W N r2 d2,RoAt W N P R L r2 D d2 → StIn W P (.agg (stC x (.slice a x.job.nodes.length cap))) x → r2.l.length < r2.lg.l.length → Calls Tryz.prog 59 #[px R, .agg (stC x (.slice a x.job.nodes.length cap))] W fun e w' => e = .returned (.bool (nextP r2.phase x.kind).2) ∧ RoTo W w' N P R L (if (nextP r2.phase x.kind).2 = true then ⟨r2.lg,r2.l ++ [x],(nextP r2.phase x.kind).1⟩ else r2) D d2) :=
  fun W N r2 d2 h2 hx hl => roTakes_c W N P R L r2 D d2 h2 x _ hx hok hmk.1 hmk.2 hl
 have HLN:=Lib.hid (lput_len d r.lg x.kind x.text)
 have HMK:=Lib.hid hmk
 have HTS:=Lib.hid hts
 have HNR:=Lib.hid h.len
 generalize hnx:nextP r.phase x.kind = nx at *
 obtain ⟨np,nb⟩:=nx
 dsimp only at HNX HPE
 have HNX0:=Lib.hid hnx
 have HM1:=Lib.hid (HM.out _ hA)
 have HNN:Hid (∀ W,(∀ b,P b → W.heap[b]? = w.heap[b]?) → StIn W P (.agg (stC x (.slice a x.job.nodes.length cap))) x):=fun W hk => ⟨_,rfl,hn.keep (fun _ k => k) hk⟩
 have HAA:=Lib.hid hA
 have x0:=hbx.cell 0
 have x1:=hbx.cell 1
 have x2:=hbx.cell 2
 have x3:=hbx.cell 3
 have x4:=hbx.cell 4
 have x5:=hbx.cell 5
 have x6:=hbx.cell 6
 have x7:=hbx.cell 7
 have x8:=hbx.cell 8
 have HBX:=Lib.hid hbx
 unfold stC at HM1 HAA x0 x1 x2 x3 x4 x5 x6 x7 x8 HTX HBX ⊢
 unfold px
 clear h hm hok hn hA hbx HM HXI hmk hts hll hnx
 go_enter Tryz.func19,Tryz.ntmps19
 go_upto_region 1 with fail
 generalize World.alloc w _ = W1 at *
 go_upto_region 5 with (first | (go_at_call 20; refine HM1.out.mono ?_; rintro e w2 ⟨rfl,hb2⟩) | fail)
 have hB2:=HAA.out.trans (hb2.mono HAA.out.size)
 have hx2:=HBX.out.below hb2 HBX.out.lt
 have c2:=(HH.out.below hB2).phase_cell
 have y0:=hx2.cell 0
 clear x0 x1 x2 x3 x4 x5 x6 x7 x8
 go_cut [5,6] (fun s5 s6 wx => s5 = .int .u8 (np:Int) ∧ s6 = .bool nb ∧ Below w2.heap.size w2 wx)
 case first =>
  go_region_with (first | (go_at_call 60; refine (HNX.out w2.drew).mono ?_; rintro e w3 ⟨rfl,hb3⟩))
  all_goals
   go_wp2_with fail
   go_meet
   exact ⟨rfl,rfl,(Below.refl w2.heap.size w2).drew.trans hb3⟩
 case rest =>
 obtain ⟨rfl,rfl,hb3⟩:=hcut
 have hB3:=hB2.trans (hb3.mono hB2.size)
 have hx3:=hx2.below hb3 hx2.lt
 cases nb
 ·rw [if_pos rfl] at HPE
  go_wp2_with fail
  go_ret
  rw [HPE.out]
  exact ⟨rfl,HH.out.toB hB3⟩
 rw [if_neg (by decide)] at HPE
 clear c2 y0 hb2 hb3 HNX HBX HM1
 have hR3:=HH.out.below hB3
 have c0:wc.cell? ⟨R,0,none⟩ = some (px L):=by obtain ⟨ML,_,hc,_⟩:=hR3.log; exact hc
 unfold px at c0
 have x0:=hx3.cell 0
 have x1:=hx3.cell 1
 have x2:=hx3.cell 2
 have x3:=hx3.cell 3
 have x4:=hx3.cell 4
 have x5:=hx3.cell 5
 have x6:=hx3.cell 6
 have x7:=hx3.cell 7
 have x8:=hx3.cell 8
 have HT3:=Lib.hid (HTX.out wc.drew hB3.drew)
 have HR3:=Lib.hid hR3
 have HX3:=Lib.hid hx3
 have HB3:=Lib.hid hB3
 have hzb:w.heap.size < wc.heap.size:=hx3.lt
 clear hR3 hx3 hB3 hx2 hB2 HTX
 generalize hpt:Lg.put d r.lg x.kind x.text = pt at *
 obtain ⟨d2,g2,pe⟩:=pt
 dsimp only at HPE HLP HLN
 unfold px at HLP
 go_upto_region 8 with fail
 go_cut [7] (fun s7 wx => s7 = .int .i64 pe ∧ Blk wx w.heap.size 29 #[.int .u8 (x.kind:Int), .int .i64 x.n, .int .i64 x.cut, .int .i64 x.too, .int .i64 x.job.par, .slice a x.job.nodes.length cap, .int .i64 x.part, .int .i64 x.at_, .int .i64 x.why] ∧ ∃ w4,Below w.heap.size w w4 ∧ w.heap.size < w4.heap.size ∧ RoTo w4 wx M P R L ⟨g2,r.l,r.phase⟩ D d2)
 case first =>
  go_region_with (first
   | (go_at_call 62; refine HT3.out.mono ?_; rintro e w4 ⟨rfl,hb4⟩; have hB4:=HB3.out.trans (((Below.refl wc.heap.size wc).drew.trans hb4).mono HB3.out.size); have hR4:=HH.out.below hB4; have k0:=(show w4.cell? ⟨R,0,none⟩ = some (px L) by obtain ⟨ML,_,hc,_⟩:=hR4.log; exact hc); unfold px at k0; have hx4:=HX3.out.drew.below hb4 HX3.out.lt; have kx:=hx4.cell 0)
   | (go_at_call 61; refine (HLP.out w4 hR4).mono ?_; rintro e w5 ⟨rfl,hT⟩)
   | (go_at_call 61; refine (HLP.out w4.drew (hR4.below (Below.refl w4.heap.size w4).drew)).mono ?_; rintro e w5 ⟨rfl,hT⟩; replace hT:=hT.undrew))
  all_goals
   go_wp2_with fail
   go_meet
   exact ⟨rfl,hx4.fr hT.1 (fun hm => by have:=HH.out.lt _ hm; omega),w4,hB4,hx4.lt,hT⟩
 case rest =>
 obtain ⟨rfl,hx5,w4,hB4,hz4,hT⟩:=hcut
 by_cases hpe:pe = 0
 ·subst hpe
  rw [if_neg (by simp)] at HPE
  obtain ⟨hf,N,hN,hR5⟩:=hT
  have hlt:r.l.length < g2.l.length:=by
   have h1:=HLN.out.2 rfl (by have:=HMK.out; omega) (Nat.le_trans HTS.out (by decide))
   have h2:=HNR.out
   omega
  have hkP:∀ b,P b → wc.heap[b]? = w.heap[b]? := fun b q => (hf.block b (Nat.lt_of_lt_of_le (HH.out.dis b q).1 hB4.size) (HH.out.dis b q).2).trans (hB4.block b (HH.out.dis b q).1)
  have HTA:=Lib.hid (HTK.out wc N _ d2 hR5 (HNN.out wc hkP) hlt)
  dsimp only at HTA
  rw [HNX0.out] at HTA
  unfold px stC at HTA
  have x0:=hx5.cell 0
  have x1:=hx5.cell 1
  have x2:=hx5.cell 2
  have x3:=hx5.cell 3
  have x4:=hx5.cell 4
  have x5:=hx5.cell 5
  have x6:=hx5.cell 6
  have x7:=hx5.cell 7
  have x8:=hx5.cell 8
  have HF:=Lib.hid hf
  have HN1:=Lib.hid hN
  have HB4:=Lib.hid hB4
  clear hx5 hf hN hB4 hz4 hR5 hlt hkP HT3 HR3 HX3 HB3 HTK HLP c0
  go_upto_region 12 with (first | (go_at_call 59; refine HTA.out.mono ?_; rintro e w6 ⟨rfl,hT6⟩) | fail)
  rw [if_pos trivial] at hT6
  obtain ⟨hf6,N6,hN6,hR6⟩:=hT6
  have c0:w6.cell? ⟨R,0,none⟩ = some (px L):=by obtain ⟨ML,_,hc,_⟩:=hR6.log; exact hc
  have HSY:=Lib.hid (roLogSync w6 N6 P R L _ D d2 hR6)
  dsimp only at HSY
  unfold px at c0 HSY
  clear x0 x1 x2 x3 x4 x5 x6 x7 x8 HTA
  go_wp2_with (first | (go_at_call 63; refine HSY.out.mono ?_; rintro e w7 ⟨rfl,hT7⟩) | fail)
  go_ret
  rw [HPE.out]
  exact ⟨rfl,RoTo.of_below HB4.out (RoTo.join HF.out HN1.out (RoTo.join hf6 hN6 hT7))⟩
 ·rw [if_pos hpe] at HPE
  have hpb:(pe != 0) = true:=by rw [bne_iff_ne]; exact hpe
  go_wp2_with fail
  go_ret
  rw [HPE.out]
  exact ⟨rfl,RoTo.of_below hB4 hT⟩
section
variable {w:World} {M P:Nat → Prop} {R L D:Nat} {r:Rdw} {d:Dk}
theorem roPhase_c (h:RoAt w M P R L r D d):Calls Tryz.prog 17 #[px R] w fun e w' => e = .returned (.int .u8 (r.phase:Int)) ∧ w = w':=by
 obtain ⟨ML,lv,h1,h2,h3,h4,h5⟩:=h.ex
 have c2:=h3.cell 2
 unfold px
 clear h1 h2 h3 h4 h5 h
 go_enter Tryz.func17,Tryz.ntmps17
 go_wp2_with fail
 go_ret
 exact ⟨rfl,rfl⟩
theorem roLen_c (h:RoAt w M P R L r D d):Calls Tryz.prog 18 #[px R] w fun e w' => e = .returned (.int .i64 (r.l.length:Int)) ∧ w = w':=by
 obtain ⟨ML,lv,h1,h2,h3,h4,h5⟩:=h.ex
 obtain ⟨a,cap,rfl,_,_⟩:=h4.slice
 have c1:=h3.cell 1
 unfold px
 clear h1 h2 h3 h4 h5 h
 go_enter Tryz.func18,Tryz.ntmps18
 go_wp2_with fail
 go_ret
 exact ⟨rfl,rfl⟩
set_option maxRecDepth 100000 in
set_option maxHeartbeats 2000000 in
theorem roAt_c (h:RoAt w M P R L r D d) (i:Nat) (hi:i < r.l.length):Calls Tryz.prog 26 #[px R, .int .i64 (i:Int)] w fun e w' =>
  ∃ a c,e = .returned (.tuple #[.agg (stC r.l[i] (.slice a r.l[i].job.nodes.length c)), .int .i64 0]) ∧ NodesIn w' P r.l[i].job.nodes (.slice a r.l[i].job.nodes.length c) ∧ Below w.heap.size w w':=by
 have hlen:=h.frs_len
 obtain ⟨ML,lv,h1,h2,h3,h4,h5⟩:=h.ex
 obtain ⟨g,cap,sv,rfl,hn,hc⟩:=h4.cells i hi
 obtain ⟨_,_,e1,hcap,hmx⟩:=h4.slice
 simp only [Value.slice.injEq,true_and] at e1
 obtain ⟨rfl,rfl⟩:=e1
 obtain ⟨sa,sc,rfl,_,_⟩:=hn.slice
 have hA:=(Below.refl w.heap.size w).alloc (Nat.le_refl _) (.cells #[.int .u8 0, .int .i64 0, .int .i64 0, .int .i64 0, .int .i64 0, .slice none 0 0, .int .i64 0, .int .i64 0, .int .i64 0] 29)
 have hres:=Blk.new w #[.int .u8 0, .int .i64 0, .int .i64 0, .int .i64 0, .int .i64 0, .slice none 0 0, .int .i64 0, .int .i64 0, .int .i64 0] 29
 have c1:=(h3.below hA h.ltR).cell 1
 have hgl:g < w.heap.size:=h.lt g (h5 g ⟨_,_,_,rfl⟩).1
 have hcA:∀ j,j < 9 → (w.alloc (.cells #[.int .u8 0, .int .i64 0, .int .i64 0, .int .i64 0, .int .i64 0, .slice none 0 0, .int .i64 0, .int .i64 0, .int .i64 0] 29)).cell? ⟨g,i * 9 + j,none⟩ = (stC r.l[i] (.slice sa r.l[i].job.nodes.length sc))[j]? := fun j hj => (hA.cell (p:=⟨g,i * 9 + j,none⟩) hgl).trans (hc j hj)
 have hiI:(i:Int) < (r.l.length:Int):=by omega
 have hi0 : ¬ (i:Int) < 0:=by omega
 have hi1:(0:Int) ≤ (i:Int):=by omega
 have d1:decide ((i:Int) < 0) = false:=decide_eq_false hi0
 have d2:decide ((r.l.length:Int) ≤ (i:Int)) = false:=decide_eq_false (by omega)
 have HN:=Lib.hid hn
 have HDIS:=Lib.hid h.dis
 clear h1 h2 h3 h4 h5 hn hc
 generalize r.l[i]'hi = x at *
 generalize r.l.length = N at *
 have HI:=Lib.hid hi
 clear hi h
 unfold stC at hcA
 have x0:=hcA 0 (by omega)
 have x1:=hcA 1 (by omega)
 have x2:=hcA 2 (by omega)
 have x3:=hcA 3 (by omega)
 have x4:=hcA 4 (by omega)
 have x5:=hcA 5 (by omega)
 have x6:=hcA 6 (by omega)
 have x7:=hcA 7 (by omega)
 have x8:=hcA 8 (by omega)
 rw [Nat.add_zero] at x0
 unfold px
 have HRES:=Lib.hid hres
 have HA:=Lib.hid hA
 clear hcA hA
 have r0:=hres.cell 0
 have r1:=hres.cell 1
 have r2:=hres.cell 2
 have r3:=hres.cell 3
 have r4:=hres.cell 4
 have r5:=hres.cell 5
 have r6:=hres.cell 6
 have r7:=hres.cell 7
 have r8:=hres.cell 8
 have q0:=hres.free 0
 have q1:=hres.free 1
 have q2:=hres.free 2
 have q3:=hres.free 3
 have q4:=hres.free 4
 have q5:=hres.free 5
 have q6:=hres.free 6
 have q7:=hres.free 7
 have q8:=hres.free 8
 clear hres
 go_enter Tryz.func26,Tryz.ntmps26
 go_upto_region 1 with fail
 generalize World.alloc w _ = W1 at *
 go_wp2_with fail
 refine bodyPost_ret (v := .tuple #[.agg #[_,_,_,_,_,_,_,_,_], .int .i64 0]) (results_cell_row2P rfl _ _ w.heap.size 29 _ (0,0) _ rfl (Blk.set9 HRES.out rfl _ _ _ _ _ _ _ _ _) Tryz.underlying29 rfl ?_ (.int .i64 0) rfl) rfl ⟨sa,sc,rfl, ?_,below_set9 HA.out (Nat.le_refl _) _ _ _ _ _ _ _ _ _⟩
 ·kernel_rfl
 ·exact HN.out.keep (fun _ k => k) (fun b hb => by
   have:=(HDIS.out b hb).1
   rw [other_set9 (by omega)]
   exact HA.out.block b this)
set_option maxRecDepth 100000 in
set_option maxHeartbeats 2000000 in
theorem roAt_out (h:RoAt w M P R L r D d) (i:Nat) (hi:r.l.length ≤ i):Calls Tryz.prog 26 #[px R, .int .i64 (i:Int)] w fun e w' =>
  e = .returned (.tuple #[.agg (stC (stOf 0 [] ⟨0,[]⟩) (.slice none 0 0)), .int .i64 5]) ∧ Below w.heap.size w w':=by
 obtain ⟨ML,lv,h1,h2,h3,h4,h5⟩:=h.ex
 obtain ⟨a,cap,rfl,hcap,hmx⟩:=h4.slice
 have hA:=(Below.refl w.heap.size w).alloc (Nat.le_refl _) (.cells #[.int .u8 0, .int .i64 0, .int .i64 0, .int .i64 0, .int .i64 0, .slice none 0 0, .int .i64 0, .int .i64 0, .int .i64 0] 29)
 have hres:=Blk.new w #[.int .u8 0, .int .i64 0, .int .i64 0, .int .i64 0, .int .i64 0, .slice none 0 0, .int .i64 0, .int .i64 0, .int .i64 0] 29
 have c1:=(h3.below hA h.ltR).cell 1
 have hi0 : ¬ (i:Int) < 0:=by omega
 have d1:decide ((i:Int) < 0) = false:=decide_eq_false hi0
 have d2:decide ((r.l.length:Int) ≤ (i:Int)) = true:=decide_eq_true (by omega)
 clear h1 h2 h3 h4 h5 h
 generalize r.l.length = N at *
 have HI:=Lib.hid hi
 clear hi
 unfold px
 have HRES:=Lib.hid hres
 have HA:=Lib.hid hA
 clear hA
 have r0:=hres.cell 0
 have r1:=hres.cell 1
 have r2:=hres.cell 2
 have r3:=hres.cell 3
 have r4:=hres.cell 4
 have r5:=hres.cell 5
 have r6:=hres.cell 6
 have r7:=hres.cell 7
 have r8:=hres.cell 8
 have q0:=hres.free 0
 have q1:=hres.free 1
 have q2:=hres.free 2
 have q3:=hres.free 3
 have q4:=hres.free 4
 have q5:=hres.free 5
 have q6:=hres.free 6
 have q7:=hres.free 7
 have q8:=hres.free 8
 clear hres
 go_enter Tryz.func26,Tryz.ntmps26
 go_upto_region 1 with fail
 generalize World.alloc w _ = W1 at *
 go_wp2_with fail
 refine bodyPost_ret (v := .tuple #[.agg #[_,_,_,_,_,_,_,_,_], .int .i64 5]) (results_cell_row2P rfl _ _ w.heap.size 29 _ (0,0) _ rfl (Blk.set9 HRES.out rfl _ _ _ _ _ _ _ _ _) Tryz.underlying29 rfl ?_ (.int .i64 5) rfl) rfl ⟨rfl,below_set9 HA.out (Nat.le_refl _) _ _ _ _ _ _ _ _ _⟩
 kernel_rfl
end
section
variable {w:World} {M P:Nat → Prop} {R L D:Nat} {r:Rdw} {d:Dk}
set_option maxRecDepth 100000 in
set_option maxHeartbeats 2000000 in
theorem roStart_c (h:RoAt w M P R L r D d) (hp:r.phase ≠ 0) (la lb:List St) (s:St) (hl:r.l = la ++ s :: lb) (hs:s.kind = 1) (hb:∀ y ∈ lb,y.kind ≠ 1):Calls Tryz.prog 22 #[px R] w fun e w' =>
  ∃ a c,e = .returned (.tuple #[.agg (stC s (.slice a s.job.nodes.length c)), .bool true]) ∧ NodesIn w' P s.job.nodes (.slice a s.job.nodes.length c) ∧ Below w.heap.size w w':=by
 have hlen:=h.frs_len
 have hph:=h.phase
 have hA:=(Below.refl w.heap.size w).alloc (Nat.le_refl _) (.cells #[.int .u8 0, .int .i64 0, .int .i64 0, .int .i64 0, .int .i64 0, .slice none 0 0, .int .i64 0, .int .i64 0, .int .i64 0] 29)
 have hres:=Blk.new w #[.int .u8 0, .int .i64 0, .int .i64 0, .int .i64 0, .int .i64 0, .slice none 0 0, .int .i64 0, .int .i64 0, .int .i64 0] 29
 have hRo:=h.below hA
 have HPH:=Lib.hid (roPhase_c hRo)
 obtain ⟨ML,lv,h1,h2,h3,h4,h5⟩:=hRo.ex
 have hll:r.l.length = la.length + lb.length + 1:=by rw [hl]; simp; omega
 obtain ⟨g,cap,sv0,rfl,hx1,hx2⟩:=h4.cells la.length (by omega)
 clear hx1 hx2 sv0
 have HC:Hid (∀ k (hk:k < r.l.length),∃ sv,NodesIn (w.alloc (.cells #[.int .u8 0, .int .i64 0, .int .i64 0, .int .i64 0, .int .i64 0, .slice none 0 0, .int .i64 0, .int .i64 0, .int .i64 0] 29)) P r.l[k].job.nodes sv ∧ ∀ j,j < 9 → (w.alloc (.cells #[.int .u8 0, .int .i64 0, .int .i64 0, .int .i64 0, .int .i64 0, .slice none 0 0, .int .i64 0, .int .i64 0, .int .i64 0] 29)).cell? ⟨g,k * 9 + j,none⟩ = (stC r.l[k] sv)[j]?):=by
  intro k hk
  obtain ⟨g2,cap2,sv,e,hn,hc⟩:=h4.cells k hk
  simp only [Value.slice.injEq,Option.some.injEq,Addr.mk.injEq] at e
  obtain ⟨⟨rfl,_⟩,_⟩:=e
  exact ⟨sv,hn,hc⟩
 have HK:Hid (∀ k (hk:k < r.l.length),(k = la.length → r.l[k] = s) ∧ (la.length < k → r.l[k].kind ≠ 1)):=by
  intro k hk
  refine ⟨fun e => ?_,fun e => ?_⟩
  ·subst e; simp [hl]
  ·have e2:k = la.length + 1 + (k - la.length - 1):=by omega
   have:r.l[k]? = lb[k - la.length - 1]? := by
    obtain ⟨q,hq⟩:∃ q,k - la.length = q + 1:=⟨k - la.length - 1,by omega⟩
    rw [hl,List.getElem?_append_right (by omega),hq,List.getElem?_cons_succ,Nat.add_sub_cancel]
   rw [List.getElem?_eq_getElem hk] at this
   exact hb _ (List.mem_of_getElem? this.symm)
 have c1:=h3.cell 1
 have hpb:((r.phase:Int) == 0) = false:=by rw [beq_eq_false_iff_ne]; omega
 have HDIS:=Lib.hid h.dis
 obtain ⟨N,hn⟩:∃ N,r.l.length = N:=⟨_,rfl⟩
 have HN:=Lib.hid hn
 rw [hn] at c1 hlen hll
 have HLL:=Lib.hid hll
 have HS:=Lib.hid hs
 have HRES:=Lib.hid hres
 have HA:=Lib.hid hA
 have HLM:=Lib.hid hlen
 have hN0:0 < N:=by omega
 clear h h1 h2 h3 h4 h5 hp hl hs hb hll hRo hA hres hn hph
 generalize la.length = m at *
 unfold px at HPH ⊢
 go_enter Tryz.func22,Tryz.ntmps22
 go_upto_region 1 with fail
 generalize World.alloc w _ = W1 at *
 go_upto_region 4 with (first | (go_at_call 17; refine HPH.out.mono ?_; rintro e w2 ⟨rfl,rfl⟩) | fail)
 go_loop [4] (fun q => ∃ k:Nat,q = .int .i64 (k:Int) ∧ m ≤ k ∧ k < N) (fun q => (intOf q).toNat - m)
 case atStart => exact ⟨N - 1,by congr 1; omega,by have:=HLL.out; omega,by omega⟩
 case round =>
  obtain ⟨k,rfl,hmk,hkN⟩:=hrel
  have hk:k < r.l.length:=by rw [HN.out]; exact hkN
  obtain ⟨sv,hnd,hc⟩:=HC.out k hk
  obtain ⟨hk1,hk2⟩:=HK.out k hk
  obtain ⟨sa,sc,rfl,_,_⟩:=hnd.slice
  by_cases hkm:k = m
  ·have hx:=hk1 hkm
   rw [hx] at hc hnd
   have hk0:((s.kind:Int) != 1) = false:=by have:=HS.out; simp [this]
   have hiI:(k:Int) < (N:Int):=by omega
   have hi0:(0:Int) ≤ (k:Int):=by omega
   unfold stC at hc
   have x0:=hc 0 (by omega)
   have x1:=hc 1 (by omega)
   have x2:=hc 2 (by omega)
   have x3:=hc 3 (by omega)
   have x4:=hc 4 (by omega)
   have x5:=hc 5 (by omega)
   have x6:=hc 6 (by omega)
   have x7:=hc 7 (by omega)
   have x8:=hc 8 (by omega)
   rw [Nat.add_zero] at x0
   have HND:=Lib.hid hnd
   have r0:=HRES.out.cell 0
   have r1:=HRES.out.cell 1
   have r2:=HRES.out.cell 2
   have r3:=HRES.out.cell 3
   have r4:=HRES.out.cell 4
   have r5:=HRES.out.cell 5
   have r6:=HRES.out.cell 6
   have r7:=HRES.out.cell 7
   have r8:=HRES.out.cell 8
   have q0:=HRES.out.free 0
   have q1:=HRES.out.free 1
   have q2:=HRES.out.free 2
   have q3:=HRES.out.free 3
   have q4:=HRES.out.free 4
   have q5:=HRES.out.free 5
   have q6:=HRES.out.free 6
   have q7:=HRES.out.free 7
   have q8:=HRES.out.free 8
   clear hc hnd hx hk1 hk2 hkm hmk
   go_wp2_with fail
   refine bodyPost_ret (v := .tuple #[.agg #[_,_,_,_,_,_,_,_,_], .bool true]) (results_cell_row2P rfl _ _ w.heap.size 29 _ (0,0) _ rfl (Blk.set9 HRES.out rfl _ _ _ _ _ _ _ _ _) Tryz.underlying29 rfl ?_ (.bool true) rfl) rfl ⟨sa,sc,rfl, ?_,below_set9 HA.out (Nat.le_refl _) _ _ _ _ _ _ _ _ _⟩
   ·kernel_rfl
   ·exact HND.out.keep (fun _ k => k) (fun b hb => other_set9 (by have:=(HDIS.out b hb).1; omega) _ _ _ _ _ _ _ _ _)
  ·have hx:=hk2 (by omega)
   generalize r.l[k]'hk = y at *
   have hk0:((y.kind:Int) != 1) = true:=by rw [bne_iff_ne]; omega
   have hiI:(k:Int) < (N:Int):=by omega
   have hi0:(0:Int) ≤ (k:Int):=by omega
   unfold stC at hc
   have x0:=hc 0 (by omega)
   rw [Nat.add_zero] at x0
   clear hc hnd hk1 hk2
   have HMK:=Lib.hid hmk
   have HKM:=Lib.hid hkm
   go_wp2_with fail
   go_round
   case rel => exact ⟨k - 1,by congr 1; omega,by have:=HMK.out; have:=HKM.out; omega,by omega⟩
   case measure => simp [intOf]; have:=HMK.out; have:=HKM.out; omega
end
structure RoOp where
 kind:Int
 n:Int
 m:Int
 x:St
def opC (o:RoOp) (sv:Value):Array Value:=#[.int .i64 o.kind, .int .i64 o.n, .int .i64 o.m, .int .u8 (o.x.kind:Int), .int .i64 o.x.n, .int .i64 o.x.cut, .int .i64 o.x.too, .int .i64 o.x.job.par,sv, .int .i64 o.x.part, .int .i64 o.x.at_, .int .i64 o.x.why]
def OpsRd (w:World) (P:Nat → Prop) (v:Value) (l:List RoOp):Prop :=
 ∃ a cap,v = .slice a l.length cap ∧ l.length ≤ cap ∧ cap ≤ maxLen ∧ (l.length = 0 ∨ ∃ b off,a = some ⟨b,off,none⟩ ∧ P b ∧ ∀ k (h:k < l.length),∃ sv,NodesIn w P l[k].x.job.nodes sv ∧ ∀ j,j < 12 → w.cell? ⟨b,off + k * 12 + j,none⟩ = (opC l[k] sv)[j]?)
theorem OpsRd.keep {w w':World} {P Q:Nat → Prop} {v:Value} {l:List RoOp} (h:OpsRd w P v l) (hPQ:∀ b,P b → Q b) (hk:∀ b,P b → w'.heap[b]? = w.heap[b]?):OpsRd w' Q v l:=by
 obtain ⟨a,cap,hv,h1,h2,h3⟩:=h
 refine ⟨a,cap,hv,h1,h2,h3.imp id ?_⟩
 rintro ⟨b,off,ha,hb,hc⟩
 refine ⟨b,off,ha,hPQ b hb,fun k hk2 => ?_⟩
 obtain ⟨sv,hn,hcs⟩:=hc k hk2
 exact ⟨sv,hn.keep hPQ hk,fun j hj => (World.cell?_of_block (hk b hb)).trans (hcs j hj)⟩
theorem OpsRd.slice {w:World} {P:Nat → Prop} {v:Value} {l:List RoOp} (h:OpsRd w P v l):∃ a cap,v = .slice a l.length cap ∧ l.length ≤ cap ∧ cap ≤ maxLen:=by
 obtain ⟨a,cap,hv,h1,h2,h3⟩:=h
 exact ⟨a,cap,hv,h1,h2⟩
theorem OpsRd.at_ {w:World} {P:Nat → Prop} {v:Value} {l:List RoOp} (h:OpsRd w P v l) (k:Nat) (hk:k < l.length):∃ b off cap sv,v = .slice (some ⟨b,off,none⟩) l.length cap ∧ P b ∧ NodesIn w P l[k].x.job.nodes sv ∧ ∀ j,j < 12 → w.cell? ⟨b,off + k * 12 + j,none⟩ = (opC l[k] sv)[j]? := by
 obtain ⟨a,cap,hv,h1,h2,h3⟩:=h
 rcases h3 with h3 | ⟨b,off,rfl,hb,hc⟩
 ·omega
 ·obtain ⟨sv,hn,hcs⟩:=hc k hk
  exact ⟨b,off,cap,sv,hv,hb,hn,hcs⟩
def heavyOps (l:List RoOp):Bool:=l.any (fun o => o.x.job.heavyB) || decide (100 < (l.length:Int))
set_option maxRecDepth 100000 in
set_option maxHeartbeats 2000000 in
theorem opHeavy_c (l:List RoOp) (v:Value) (w:World) (P:Nat → Prop) (h:OpsRd w P v l) (hP:∀ b,P b → b < w.heap.size) :
  Calls Tryz.prog 13 #[v] w fun e w' => e = .returned (.bool (heavyOps l)) ∧ Below w.heap.size w w':=by
 obtain ⟨a,cap,rfl,hcap,hmx⟩:=h.slice
 have HS:=Lib.hid h
 have HPL:=Lib.hid hP
 have hlm:l.length ≤ 9223372036854775807:=by unfold maxLen at hmx; omega
 have HE:Hid (heavyOps l = (l.any (fun o => o.x.job.heavyB) || decide (100 < (l.length:Int)))):=rfl
 generalize heavyOps l = R at *
 have HN:∃ N,l.length = N:=⟨_,rfl⟩
 obtain ⟨N,hN⟩:=HN
 have HN:=Lib.hid hN
 rw [hN] at hlm ⊢
 rw [hN] at HE
 clear h hcap hmx hN hP
 go_enter Tryz.func13,Tryz.ntmps13
 go_wp2_with fail
 go_loopw [7] (fun q wr => ∃ k:Nat,q = .int .i64 k ∧ k ≤ N ∧ Below w.heap.size w wr ∧ (l.drop k).any (fun o => o.x.job.heavyB) = l.any (fun o => o.x.job.heavyB)) (fun q _ => N - (intOf q).toNat)
 case atStart => exact ⟨0,rfl,Nat.zero_le _,Below.refl _ _,rfl⟩
 case round =>
  obtain ⟨k,rfl,hk,hBr,hr⟩:=hrel
  by_cases hlt:k < N
  ·have hkl:k < l.length:=by have:=HN.out; omega
   obtain ⟨b,off,cp,sv,e1,hb,hn,hc⟩:=(HS.out.keep (Q:=P) (fun _ k => k) (fun b hb => hBr.block b (HPL.out b hb))).at_ k hkl
   rw [HN.out] at e1
   simp only [Value.slice.injEq,true_and] at e1
   obtain ⟨rfl,rfl⟩:=e1
   obtain ⟨sa,sc,rfl,_,_⟩:=hn.slice
   rw [List.drop_eq_getElem_cons hkl,List.any_cons] at hr
   have HC:=Lib.hid (hn.toAt (B:=w.heap.size) HPL.out)
   generalize l[k]'hkl = o at *
   have hbw:w.heap.size ≤ wr.heap.size:=hBr.size
   have c0:=hc 0 (by omega)
   have c1:=hc 1 (by omega)
   have c2:=hc 2 (by omega)
   have c3:=hc 3 (by omega)
   have c4:=hc 4 (by omega)
   have c5:=hc 5 (by omega)
   have c6:=hc 6 (by omega)
   have c7:=hc 7 (by omega)
   have c8:=hc 8 (by omega)
   have c9:=hc 9 (by omega)
   have c10:=hc 10 (by omega)
   have c11:=hc 11 (by omega)
   rw [Nat.add_zero] at c0
   unfold opC at c0 c1 c2 c3 c4 c5 c6 c7 c8 c9 c10 c11
   have hbx:=Blk.new wr #[.int .i64 o.kind, .int .i64 o.n, .int .i64 o.m, .int .u8 (o.x.kind:Int), .int .i64 o.x.n, .int .i64 o.x.cut, .int .i64 o.x.too, .int .i64 o.x.job.par, .slice sa o.x.job.nodes.length sc, .int .i64 o.x.part, .int .i64 o.x.at_, .int .i64 o.x.why] 31
   have hB2:=hBr.alloc hbw (.cells #[.int .i64 o.kind, .int .i64 o.n, .int .i64 o.m, .int .u8 (o.x.kind:Int), .int .i64 o.x.n, .int .i64 o.x.cut, .int .i64 o.x.too, .int .i64 o.x.job.par, .slice sa o.x.job.nodes.length sc, .int .i64 o.x.part, .int .i64 o.x.at_, .int .i64 o.x.why] 31)
   have HH:Hid (∀ W:World,Below w.heap.size w W → Below w.heap.size wr W → Calls Tryz.prog 54 #[.agg #[.int .i64 o.x.job.par, .slice sa o.x.job.nodes.length sc]] W fun e w' => e = .returned (.bool o.x.job.heavyB) ∧ Below W.heap.size W w') :=
    fun W hW h2 => Heavy_c o.x.job _ w.heap.size W ⟨_,rfl,HC.out.keep h2⟩ hW.size
   have HB2:=Lib.hid ((Below.refl wr.heap.size wr).alloc (Nat.le_refl _) (.cells #[.int .i64 o.kind, .int .i64 o.n, .int .i64 o.m, .int .u8 (o.x.kind:Int), .int .i64 o.x.n, .int .i64 o.x.cut, .int .i64 o.x.too, .int .i64 o.x.job.par, .slice sa o.x.job.nodes.length sc, .int .i64 o.x.part, .int .i64 o.x.at_, .int .i64 o.x.why] 31))
   have HR:=Lib.hid hr
   clear hr hn hc
   rename_i hx1 hx2
   clear hx1 hx2
   go_upto_region 4 with fail
   generalize World.alloc wr _ = W2 at *
   have n7:=hbx.cell 7
   have n8:=hbx.cell 8
   clear c0 c1 c2 c3 c4 c5 c6 c7 c8 c9 c10 c11
   have HH2:=Lib.hid (HH.out W2 hB2 (HB2.out.mono hbw))
   cases hv:o.x.job.heavyB
   all_goals
    rw [hv] at HH2
    have HV:=Lib.hid hv
    clear hv
    go_wp2_with (first | (go_at_call 54; refine HH2.out.mono ?_; rintro e w3 ⟨rfl,hb3⟩) | fail)
   ·go_roundw
    case rel => exact ⟨k + 1,by go_num,by omega,hB2.trans (hb3.mono hB2.size),by rw [← HR.out,HV.out]; rfl⟩
    case measure => simp [intOf]; omega
   ·go_ret
    refine ⟨ret_bool ?_,hB2.trans (hb3.mono hB2.size)⟩
    rw [HE.out, ← HR.out,HV.out]; rfl
  ·rw [List.drop_of_length_le (by have:=HN.out; omega)] at hr
   have HR:=Lib.hid hr
   clear hr
   go_wp2
   go_ret
   exact ⟨ret_bool (by rw [HE.out, ← HR.out]; rfl),hBr⟩
end Go.Proofs.YtpkijdkoiecpiaaGreatDoor
