/- Parts. -/
import Derived.Test.YtgbfdcmkbblodaaGreatDoorVW25
import Derived.Test.YtgbfdcmkbblodaaGreatDoorVW26
namespace Go.Proofs.YtgbfdcmkbblodaaGreatDoor
open Go.RowKit
set_option linter.unusedVariables false
set_option linter.unusedSimpArgs false
set_option maxRecDepth 100000
set_option maxHeartbeats 16000000
def signTexts:List (List UInt8):=[[43],[45],[42],[47],[37],[40],[41],[38],[124],[33],[61],[60],[33,61],[60,61]]
structure TokWf (t:Tok):Prop where
 at_:0<=t.at_
 n:0<=t.n
 kind:t.kind=1\/t.kind=2\/t.kind=3
 sign:t.kind=3->t.text.toList∈signTexts
 name:t.kind=1-> ∃(r:Int) (rest:ByteArray),kindN r=1/\t.text=Utf8.encode r++rest
structure TokCur (t:Tok):Prop where
 n:t.n=0
 kind:t.kind=0\/t.kind=1\/t.kind=2\/t.kind=3
 digits:t.kind=2-> ∀b∈t.text.data.toList,48<=b.toNat/\b.toNat<=57
 sign:t.kind=3->t.text.toList∈signTexts
 name:t.kind=1-> ∃(r:Int) (rest:ByteArray),kindN r=1/\t.text=Utf8.encode r++rest
theorem kindN_cases (r:Int):kindN r=0\/kindN r=1\/kindN r=2\/kindN r=3:=by
 unfold kindN
 repeat' split
 all_goals simp
theorem numGo_nonneg: ∀(rs:List Int) (n m:Int),0<=n->(∀r∈rs,48<=r)->numGo n rs=some m->0<=m
 | [],n,m,hn,_,h=>by simp only[numGo,Option.some.injEq]at h;omega
 |r::rs,n,m,hn,hr,h=>by
  simp only[numGo]at h
  split at h
  ·simp at h
  ·have:=hr r (by simp)
   exact numGo_nonneg rs _ m (by omega) (fun x hx=>hr x (by simp[hx])) h
theorem encode_sign (r:Int) (h:signB r=true):(Utf8.encode r).toList∈signTexts:=by
 have h':r=43\/r=45\/r=42\/r=47\/r=37\/r=40\/r=41\/r=38\/r=124\/r=33\/r=61\/r=60:=by simpa[signB]using h
 rcases h' with rfl|rfl|rfl|rfl|rfl|rfl|rfl|rfl|rfl|rfl|rfl|rfl<;>decide+kernel
theorem kindN_sign {r:Int} (h:kindN r=3):signB r=true:=by
 unfold kindN at h;split at h
 ·omega
 ·split at h
  ·assumption
  ·split at h<;>omega
theorem toList_append (a b:ByteArray):(a++b).toList=a.toList++b.toList:=by
 rw[ByteArray.toList_eq,ByteArray.toList_eq,ByteArray.toList_eq];simp[ByteArray.data_append]
theorem TokCur.zero:TokCur Tok.zero:=⟨rfl,.inl rfl,fun h=>absurd h (by decide),fun h=>absurd h (by decide),fun h=>absurd h (by decide)⟩
theorem TokCur.new (r:Int) (p:Int):TokCur ⟨kindN r,Utf8.encode r,0,p⟩:=
 ⟨rfl,kindN_cases r,digits_one r,fun h=>encode_sign r (kindN_sign h),fun h=>⟨r,ByteArray.empty,h,by simp⟩⟩
theorem TokCur.goes {t:Tok} (h:TokCur t) (r:Int) (hg:goesB t.kind t.text r=true):TokCur {t with text:=t.text++Utf8.encode r}:=by
 refine⟨h.n,h.kind,digits_snoc t.kind t.text r h.digits hg,fun hk=>?_,fun hk=>?_⟩
 ·have hk3:t.kind=3:=hk;unfold goesB at hg;rw[if_pos hk3]at hg;simp only[Bool.and_eq_true,Bool.or_eq_true,decide_eq_true_eq]at hg;obtain⟨rfl,hg⟩:=hg;show(t.text++Utf8.encode 61).toList∈_;rw[toList_append];rcases hg with hg|hg<;>rw[hg]<;>decide+kernel
 ·obtain⟨r0,rest,h1,h2⟩:=h.name hk;exact⟨r0,rest++Utf8.encode r,h1,by show t.text++_=_;rw[h2,ByteArray.append_assoc]⟩
theorem endTok_wf {t:Tok} (h:TokCur t) (ha:0<=t.at_) {out o:List Tok} (ho: ∀u∈out,TokWf u) (he:endTok t out=some o): ∀u∈o,TokWf u:=by
 unfold endTok at he;by_cases hk:t.kind=2
 ·rw[if_pos hk]at he
  cases hm:numGo 0 (runes t.text)with
  |none=>rw[hm]at he;simp at he
  |some m=>
   rw[hm]at he;simp only[Option.some.injEq]at he;subst he;intro u hu;rcases List.mem_append.1 hu with hu|hu
   ·exact ho u hu
   ·simp only[List.mem_singleton]at hu;subst hu;have hd:=digit_runes (h.digits hk);exact⟨ha,numGo_nonneg _ 0 m (by omega) (fun r hr=>(hd r hr).1) hm,.inr (.inl rfl),fun h=>absurd h (by simp),fun h=>absurd h (by simp)⟩
 ·rw[if_neg hk]at he;by_cases h0:t.kind=0
  ·rw[if_pos h0]at he;simp only[Option.some.injEq]at he;subst he;exact ho
  ·rw[if_neg h0]at he;simp only[Option.some.injEq]at he;subst he;intro u hu;rcases List.mem_append.1 hu with hu|hu
   ·exact ho u hu
   ·simp only[List.mem_singleton]at hu;subst hu;refine⟨ha,by rw[h.n];omega,?_,h.sign,h.name⟩;rcases h.kind with h1|h1
    ·exact absurd h1 h0
    ·exact h1
theorem tokGo_wf: ∀(rs:List Int) (t:Tok) (pos:Int) (out:List Tok),TokCur t->0<=t.at_-> -1<=pos->(∀u∈out,TokWf u)->
  (∀u∈(tokGo t pos out rs).1,TokWf u)/\0<=(tokGo t pos out rs).2.1
 | [],t,pos,out,ht,ha,hp,ho=>by
  simp only[tokGo]
  cases he:endTok t out with
  |none=>exact⟨by simp,ha⟩
  |some o=>exact⟨endTok_wf ht ha ho he,Int.le_refl 0⟩
 |r::rs,t,pos,out,ht,ha,hp,ho=>by
  simp only[tokGo]
  split
  ·exact tokGo_wf rs _ _ _ (ht.goes r (by assumption)) ha (by omega) ho
  ·cases he:endTok t out with
   |none=>exact⟨by simp,ha⟩
   |some o=>
    dsimp only
    have ho2:=endTok_wf ht ha ho he
    split
    ·exact tokGo_wf rs _ _ _ TokCur.zero (Int.le_refl 0) (by omega) ho2
    ·split
     ·exact⟨by simp,by show 0<=pos+1;omega⟩
     ·exact tokGo_wf rs _ _ _ (TokCur.new r _) (by show 0<=pos+1;omega) (by omega) ho2
theorem toks_wf (s:ByteArray):(∀u∈(toks s).1,TokWf u)/\0<=(toks s).2.1:=by
 unfold toks;split
 ·exact⟨by simp,Int.le_refl 0⟩
 ·exact tokGo_wf _ _ _ _ TokCur.zero (Int.le_refl 0) (by omega) (by simp)
def PSt.Wf (st:PSt):Prop:=(∀u∈st.l,TokWf u)/\ ∀b,st.bad=some b->0<=b
mutual
def Ex.shp:Ex->Bool
 | .mk o n l=>shapeB (.mk o n l)&&Exs.shp l
def Exs.shp:List Ex->Bool
 | []=>true
 |x::l=>x.shp&&Exs.shp l
end
structure Good (st:PSt) (p:Ex×PSt):Prop where
 wf:p.2.Wf
 good:p.2.bad=none->st.bad=none/\p.1.shp=true
def NB (l:List Tok):Prop:= ∀t∈l,0<=t.n/\t.n<=9223372036854775807
theorem numGo_hi: ∀(rs:List Int) (n m:Int),n<=9223372036854775807->numGo n rs=some m->m<=9223372036854775807
 | [],n,m,hn,h=>by simp only[numGo,Option.some.injEq]at h;omega
 |r::rs,n,m,hn,h=>by
  simp only[numGo]at h
  split at h
  ·simp at h
  ·exact numGo_hi rs _ m (by omega) h
theorem endTok_hi {t:Tok} (h:t.n<=9223372036854775807) {out o:List Tok} (ho: ∀u∈out,u.n<=9223372036854775807) (he:endTok t out=some o): ∀u∈o,u.n<=9223372036854775807:=by
 unfold endTok at he;by_cases hk:t.kind=2
 ·rw[if_pos hk]at he
  cases hm:numGo 0 (runes t.text)with
  |none=>rw[hm]at he;simp at he
  |some m=>
   rw[hm]at he;simp only[Option.some.injEq]at he;subst he;intro u hu;rcases List.mem_append.1 hu with hu|hu
   ·exact ho u hu
   ·simp only[List.mem_singleton]at hu;subst hu;exact numGo_hi _ 0 m (by omega) hm
 ·rw[if_neg hk]at he;by_cases h0:t.kind=0
  ·rw[if_pos h0]at he;simp only[Option.some.injEq]at he;subst he;exact ho
  ·rw[if_neg h0]at he;simp only[Option.some.injEq]at he;subst he;intro u hu;rcases List.mem_append.1 hu with hu|hu
   ·exact ho u hu
   ·simp only[List.mem_singleton]at hu;subst hu;exact h
theorem tokGo_hi: ∀(rs:List Int) (t:Tok) (pos:Int) (out:List Tok),t.n<=9223372036854775807->(∀u∈out,u.n<=9223372036854775807)-> ∀u∈(tokGo t pos out rs).1,u.n<=9223372036854775807
 | [],t,pos,out,ht,ho=>by
  simp only[tokGo]
  cases he:endTok t out with
  |none=>simp
  |some o=>exact endTok_hi ht ho he
 |r::rs,t,pos,out,ht,ho=>by
  simp only[tokGo]
  split
  ·exact tokGo_hi rs _ _ _ ht ho
  ·cases he:endTok t out with
   |none=>simp
   |some o=>
    dsimp only
    have ho2:=endTok_hi ht ho he
    split
    ·exact tokGo_hi rs _ _ _ (by decide) ho2
    ·split
     ·simp
     ·exact tokGo_hi rs _ _ _ (by show(0:Int)<=_;omega) ho2
theorem toks_nb (s:ByteArray):NB (toks s).1:=by
 intro t ht;refine⟨((toks_wf s).1 t ht).n,?_⟩
 revert t
 unfold toks;split
 ·simp
 ·exact tokGo_hi _ _ _ _ (by decide) (by simp)
def OkP (p:Ex×PSt):Prop:=p.1.ok/\NB p.2.l
theorem NB.next {st:PSt} (h:NB st.l):NB st.next.l:=fun t ht=>h t (List.mem_of_mem_drop ht)
theorem NB.fails {E:Int} {st:PSt} (h:NB st.l):NB (st.fails E).l:=by
 unfold PSt.fails
 cases st.bad<;>exact h
theorem NB.must {E:Int} {st:PSt} (h:NB st.l) (s:List UInt8):NB (st.must E s).l:=by
 unfold PSt.must;split
 ·exact h.next
 ·exact h.fails
theorem ok_mk {o n:Int} {l:List Ex} (h0:0<=o) (h1:o<=255) (h2:0<=n) (h3:n<=9223372036854775807) (hl:Exs.ok l):(Ex.mk o n l).ok:=by
 simp only[Ex.ok];exact⟨h0,h1,by omega,h3,hl⟩
theorem ok_zero:Ex.zero.ok:=ok_mk (by omega) (by omega) (by omega) (by omega) trivial
theorem rowL_ok {one:PSt->Ex×PSt} (h1: ∀st,NB st.l->OkP (one st)) {sg:List (List UInt8×Int)} (hsg: ∀p∈sg,0<=p.2/\p.2<=255): ∀(c:Nat) (x:Ex) (st:PSt),x.ok->NB st.l->OkP (rowL one sg c x st)
 |0,x,st,hx,hs=>⟨hx,hs⟩
 |c+1,x,st,hx,hs=>by
  simp only[rowL]
  split
  ·exact⟨hx,hs⟩
  ·cases hg:signOf st sg with
   |none=>exact⟨hx,hs⟩
   |some o=>
    dsimp only
    have ho: ∃p∈sg,p.2=o:=by
     clear h1 hsg
     induction sg with
     |nil=>simp[signOf]at hg
     |cons p r ih=>
      obtain⟨s,o'⟩:=p;simp only[signOf]at hg;split at hg
      ·exact⟨(s,o'),by simp,by simpa using hg⟩
      ·obtain⟨p,hp,he⟩:=ih hg;exact⟨p,by simp[hp],he⟩
    obtain⟨p,hp,rfl⟩:=ho;have hm:=hsg p hp;have hg1:=h1 st.next (NB.next hs);exact rowL_ok h1 hsg c _ _ (ok_mk hm.1 hm.2 (by omega) (by omega) ⟨hx,hg1.1,trivial⟩) hg1.2
theorem lvSigns_ops (lv:Nat): ∀p∈lvSigns lv,0<=p.2/\p.2<=255:=by
 match lv with
 |0=>decide
 |1=>decide
 |2=>decide
 |3=>decide
 |n+4=>simp only[lvSigns];decide
theorem prF_ok (E:Int) (N:Nat): ∀(lv:Nat) (st:PSt),st.need lv<=N->lv<=6->NB st.l->OkP (prF E lv st):=by
 induction N using Nat.strongRecOn with
 |ind N ih=>
  intro lv st hn hlv hw;unfold PSt.need at hn;have ih': ∀(lv':Nat) (st':PSt),8*st'.l.length+(7-lv')<N->lv'<=6->NB st'.l->OkP (prF E lv' st'):=fun lv' st' h1 h2 h3=>ih _ h1 lv' st' le0 h2 h3;by_cases h5:lv<5
  ·rw[prF_row E lv st h5]
   let f:PSt->Ex×PSt:=fun s=>if s.l.length<=st.l.length then prF E (lv+1) s else(Ex.zero,⟨[],some 0⟩)
   have hf: ∀s,NB s.l->OkP (f s):=by
    intro s hs;by_cases hl:s.l.length<=st.l.length
    ·show OkP (if _ then _ else _);rw[if_pos hl];exact ih' (lv+1) s (by omega) (by omega) hs
    ·show OkP (if _ then _ else _);rw[if_neg hl];exact⟨ok_zero,fun t ht=>by simp at ht⟩
   rw[rowL_congr (one:=prF E (lv+1)) (one':=f) (prF_len E (lv+1)) _ st.l.length (fun s hs=>by show _=if _ then _ else _;rw[if_pos (by omega)]) _ _ _ (prF_len E (lv+1) st)];have hg:=ih' (lv+1) st (by omega) (by omega) hw;exact rowL_ok hf (lvSigns_ops lv) _ _ _ hg.1 hg.2
  ·by_cases h6:lv=5
   ·subst h6;rw[prF_unary];unfold prUnary;split
    ·rename_i hs;have hl:=PSt.next_lt hs;have hg:=ih' 5 st.next (by omega) (by omega) (NB.next hw);exact⟨ok_mk (by omega) (by omega) (by omega) (by omega) ⟨hg.1,trivial⟩,hg.2⟩
    ·split
     ·rename_i _ hs;have hl:=PSt.next_lt hs;have hg:=ih' 5 st.next (by omega) (by omega) (NB.next hw);exact⟨ok_mk (by omega) (by omega) (by omega) (by omega) ⟨hg.1,trivial⟩,hg.2⟩
     ·exact ih' 6 st (by omega) (by omega) hw
   ·obtain rfl:lv=6:=by omega
    rw[prF_one];unfold prOne;split
    ·exact⟨ok_zero,hw⟩
    ·split
     ·have h0:0<=st.numN/\st.numN<=9223372036854775807:=by
       obtain⟨l,b⟩:=st
       cases l with
       |nil=>exact⟨Int.le_refl 0,by show(0:Int)<=_;omega⟩
       |cons t l=>exact hw t (by simp)
      exact⟨ok_mk (by omega) (by omega) h0.1 h0.2 trivial,NB.next hw⟩
     ·split
      ·exact⟨ok_mk (by omega) (by omega) (by omega) (by omega) trivial,NB.next hw⟩
      ·split
       ·exact⟨ok_mk (by omega) (by omega) (by omega) (by omega) trivial,NB.next hw⟩
       ·split
        ·exact⟨ok_mk (by omega) (by omega) (by omega) (by omega) trivial,NB.next hw⟩
        ·split
         ·rename_i hs;have hl:=PSt.next_lt hs;have hg:=ih' 0 st.next (by omega) (by omega) (NB.next hw);exact⟨hg.1,NB.must hg.2 _⟩
         ·split
          ·rename_i hs;have hl:=PSt.next_lt hs;have g1:=ih' 0 st.next (by omega) (by omega) (NB.next hw);have l1:=le1 (PSt.must_le E (prF E 0 st.next).2 wThen) (prF_len E 0 st.next);have g2:=ih' 0 ((prF E 0 st.next).2.must E wThen) (by omega) (by omega) (NB.must g1.2 _);have l2:=le1 (PSt.must_le E (prF E 0 ((prF E 0 st.next).2.must E wThen)).2 wElse) (prF_len E 0 ((prF E 0 st.next).2.must E wThen));have g3:=ih' 0 ((prF E 0 ((prF E 0 st.next).2.must E wThen)).2.must E wElse) (by omega) (by omega) (NB.must g2.2 _);exact⟨ok_mk (by omega) (by omega) (by omega) (by omega) ⟨g1.1,g2.1,g3.1,trivial⟩,g3.2⟩
          ·exact⟨ok_zero,NB.fails hw⟩
theorem parse_ok (s:ByteArray):(parse s).1.ok:=by
 unfold parse;split
 ·exact ok_zero
 ·have hg:=prF_ok (runes s).length _ 0 ⟨(toks s).1,none⟩ le0 (by omega) (toks_nb s);unfold parseEnd
  repeat' split
  all_goals first|exact ok_zero|exact hg.1
structure NRw (B0:Nat) (P:Nat->Prop) (wx:World) (l:List Nd) (av:Value) (cs:List Value) (ivs svs:Nat->Value):Prop where
 own:wx.ownsRow B0 135 7 av l.length cs
 cells: ∀i (hi:i<l.length),cs[i*7]? =some (.string (l[i]'hi).uid)/\cs[i*7+1]? =some (.int .u8 (l[i]'hi).kind)/\cs[i*7+2]? =some (ivs i)/\cs[i*7+3]? =some (.int .u8 (l[i]'hi).x.op)/\cs[i*7+4]? =some (.int .i64 (l[i]'hi).x.n)/\cs[i*7+5]? =some (svs i)/\cs[i*7+6]? =some (.int .i64 (l[i]'hi).n)
 sub: ∀i (hi:i<l.length),(l[i]'hi).uid.size<=maxLen/\InsP wx (fun b=>P b/\b<wx.heap.size/\some b≠av.ownBlock) (l[i]'hi).ins (ivs i)/\ArgsIn wx (fun b=>P b/\b<wx.heap.size/\some b≠av.ownBlock) (l[i]'hi).x.args (svs i)
theorem NRw.nil (B0:Nat) (P:Nat->Prop) (w:World) (ivs svs:Nat->Value):NRw B0 P w [] (.slice none 0 0) [] ivs svs:=⟨⟨by simp,.inl ⟨rfl,rfl⟩⟩,fun i hi=>absurd hi (Nat.not_lt_zero _),fun i hi=>absurd hi (Nat.not_lt_zero _)⟩
theorem NRw.keepP {B0:Nat} {P P':Nat->Prop} {wx wy:World} {l:List Nd} {av:Value} {cs:List Value} {ivs svs:Nat->Value} (h:NRw B0 P wx l av cs ivs svs) (hs:wx.heap.size<=wy.heap.size) (ha: ∀q,av.ownBlock=some q->wy.heap[q]? =wx.heap[q]?)
  (hk: ∀b,P b->b<wx.heap.size->some b≠av.ownBlock->P' b/\wy.heap[b]? =wx.heap[b]?):NRw B0 P' wy l av cs ivs svs:=by
 have go: ∀b,(P b/\b<wx.heap.size/\some b≠av.ownBlock)->P' b/\b<wy.heap.size/\some b≠av.ownBlock:=fun b hb=>⟨(hk b hb.1 hb.2.1 hb.2.2).1,lt1 hb.2.1 hs,hb.2.2⟩;refine⟨?_,h.cells,fun i hi=>⟨(h.sub i hi).1,(h.sub i hi).2.1.keep go (fun b hb=>(hk b hb.1 hb.2.1 hb.2.2).2),(h.sub i hi).2.2.keep go (fun b hb=>(hk b hb.1 hb.2.1 hb.2.2).2)⟩⟩;obtain⟨q1,q2⟩:=h.own;refine⟨q1,q2.imp id ?_⟩;rintro ⟨g,cap,cur,hv,hb,hg,r⟩;exact⟨g,cap,cur,hv,hb,(ha g (by rw[hv];rfl)).trans hg,r⟩
theorem NRw.nodes {B0 B:Nat} {P:Nat->Prop} {wx:World} {l:List Nd} {av:Value} {cs:List Value} {ivs svs:Nat->Value} (h:NRw B0 P wx l av cs ivs svs) (hB:wx.heap.size<=B):NodesAt wx B l av:=by
 obtain⟨⟨h1,h2⟩,hc,hs⟩:=h;rcases h2 with ⟨rfl,h0⟩|⟨g,cap,cur,rfl,hb,hg,hn,hcp,hsz,ht⟩
 ·exact⟨none,0,by rw[h0],by omega,ze0,.inl h0⟩
 ·have hlt:g<wx.heap.size:=(Array.getElem?_eq_some_iff.1 hg).1;have cell: ∀q,q<l.length*7->wx.cell? ⟨g,0+q,none⟩=cs[q]? :=fun q hq=>by
   rw[Nat.zero_add,cell_of_row wx g q cur 135 (0,0) hg,<-ht,List.getElem?_take,if_pos hq];simp
  refine⟨_,cap,rfl,hn,hcp,.inr ⟨g,0,rfl,by omega,fun j hj=>?_⟩⟩;obtain⟨c0,c1,c2,c3,c4,c5,c6⟩:=hc j hj;obtain⟨s0,s1,s2⟩:=hs j hj;exact⟨s0,ivs j,svs j,(cell (j*7) (by omega)).trans c0,(cell (j*7+1) (by omega)).trans c1,(cell (j*7+2) (by omega)).trans c2,(cell (j*7+3) (by omega)).trans c3,(cell (j*7+4) (by omega)).trans c4,
   (cell (j*7+5) (by omega)).trans c5,(cell (j*7+6) (by omega)).trans c6,s1.sl (fun b hb=>lt1 hb.2.1 hB),s2.toAt (fun b hb=>lt1 hb.2.1 hB)⟩
theorem NRw.nodesIn {B0:Nat} {P Q:Nat->Prop} {wx:World} {l:List Nd} {av:Value} {cs:List Value} {ivs svs:Nat->Value} (h:NRw B0 P wx l av cs ivs svs) (hQ: ∀b,P b->b<wx.heap.size->Q b) (hq: ∀b,av.ownBlock=some b->Q b):NodesIn wx Q l av:=by
 obtain⟨⟨h1,h2⟩,hc,hs⟩:=h;rcases h2 with ⟨rfl,h0⟩|⟨g,cap,cur,rfl,hb,hg,hn,hcp,hsz,ht⟩
 ·exact⟨none,0,by rw[h0],by omega,ze0,.inl h0⟩
 ·have cell: ∀q,q<l.length*7->wx.cell? ⟨g,0+q,none⟩=cs[q]? :=fun q hq=>by
   rw[Nat.zero_add,cell_of_row wx g q cur 135 (0,0) hg,<-ht,List.getElem?_take,if_pos hq];simp
  refine⟨_,cap,rfl,hn,hcp,.inr ⟨g,0,rfl,hq g rfl,fun j hj=>?_⟩⟩;obtain⟨c0,c1,c2,c3,c4,c5,c6⟩:=hc j hj;obtain⟨s0,s1,s2⟩:=hs j hj;exact⟨s0,ivs j,svs j,(cell (j*7) (by omega)).trans c0,(cell (j*7+1) (by omega)).trans c1,(cell (j*7+2) (by omega)).trans c2,(cell (j*7+3) (by omega)).trans c3,(cell (j*7+4) (by omega)).trans c4,
   (cell (j*7+5) (by omega)).trans c5,(cell (j*7+6) (by omega)).trans c6,SlP.of_ins (s1.keep (fun b hb=>hQ b hb.1 hb.2.1) (fun _ _=>rfl)),s2.keep (fun b hb=>hQ b hb.1 hb.2.1) (fun _ _=>rfl)⟩
theorem NRw.snoc {B0:Nat} {P P':Nat->Prop} {wx w4 w5:World} {l:List Nd} {av:Value} {cs:List Value} {ivs svs:Nat->Value} {g capg:Nat} {y:Nd} {iv sv:Value} {o:Obj} (h:NRw B0 P w4 l av cs ivs svs) (hPo: ∀b,P b->P' b) (hPn: ∀b,wx.heap.size<=b->b<w4.heap.size->P' b) (hx: ∀q,av.ownBlock=some q->q<wx.heap.size) (hxs:wx.heap.size<=w4.heap.size) (hB:B0<=wx.heap.size)
  (hu:y.uid.size<=maxLen) (hi:InsP w4 (fun b=>wx.heap.size<=b/\b<w4.heap.size) y.ins iv) (hy:ArgsIn w4 (fun b=>wx.heap.size<=b/\b<w4.heap.size) y.x.args sv) (hg:(w4.alloc o).grownBy w5 av.ownBlock) (hat:av.ownBlock=some g\/g=(w4.alloc o).heap.size) (hlt:g<w5.heap.size)
  (hown:w5.ownsRow B0 135 7 (.slice (some ⟨g,0,none⟩) (l.length+1) capg) (l.length+1) (cs++ [.string y.uid,.int .u8 y.kind,iv,.int .u8 y.x.op,.int .i64 y.x.n,sv,.int .i64 y.n])):
  NRw B0 P' w5 (l++ [y]) (.slice (some ⟨g,0,none⟩) (l.length+1) capg) (cs++ [.string y.uid,.int .u8 y.kind,iv,.int .u8 y.x.op,.int .i64 y.x.n,sv,.int .i64 y.n]) (fun i=>if i=l.length then iv else ivs i) (fun i=>if i=l.length then sv else svs i):=by
 have hl:(l++ [y]).length=l.length+1:=by simp
 have hcl:cs.length=l.length*7:=h.own.1;have hsz:(w4.alloc o).heap.size=w4.heap.size+1:=by simp
 have hgs:=hg.size;have keepB: ∀b,b<w4.heap.size->some b≠av.ownBlock->w5.heap[b]? =w4.heap[b]? :=fun b hb hn=>(hg.block b (by omega) hn).trans (alloc_old w4 o b hb);have old: ∀b,(P b/\b<w4.heap.size/\some b≠av.ownBlock)->P' b/\b<w5.heap.size/\some b≠(Value.slice (some ⟨g,0,none⟩) (l.length+1) capg).ownBlock:=fun b hb=>⟨hPo b hb.1,by have:=hb.2.1;omega,by
  simp only[Value.ownBlock,ne_eq,Option.some.injEq]
  intro e
  rcases hat with h1|h1
  ·exact hb.2.2 (by rw[h1,e])
  ·have:=hb.2.1;omega⟩
 have new: ∀b,(wx.heap.size<=b/\b<w4.heap.size)->P' b/\b<w5.heap.size/\some b≠(Value.slice (some ⟨g,0,none⟩) (l.length+1) capg).ownBlock:=fun b hb=>⟨hPn b hb.1 hb.2,by have:=hb.2;omega,by
  simp only[Value.ownBlock,ne_eq,Option.some.injEq]
  intro e
  rcases hat with h1|h1
  ·have:=hx g h1;have:=hb.1;omega
  ·have:=hb.2;omega⟩
 have keepN: ∀b,(wx.heap.size<=b/\b<w4.heap.size)->w5.heap[b]? =w4.heap[b]? :=fun b hb=>keepB b hb.2 (fun e=>by have:=hx b e.symm;have:=hb.1;omega);refine⟨by rw[hl];exact hown,fun i hi'=>?_,fun i hi'=>?_⟩
 ·by_cases hil:i<l.length
  ·obtain⟨c0,c1,c2,c3,c4,c5,c6⟩:=h.cells i hil;simp only[if_neg (show i≠l.length by omega)];rw[List.getElem_append_left hil];have ap: ∀q u,cs[q]? =some u->(cs++ [Value.string y.uid,.int .u8 y.kind,iv,.int .u8 y.x.op,.int .i64 y.x.n,sv,.int .i64 y.n])[q]? =some u:=fun q u hq=>by
    rw[List.getElem?_append_left (List.getElem?_eq_some_iff.1 hq).1];exact hq
   exact⟨ap _ _ c0,ap _ _ c1,ap _ _ c2,ap _ _ c3,ap _ _ c4,ap _ _ c5,ap _ _ c6⟩
  ·obtain rfl:i=l.length:=by omega
   rw[List.getElem_append_right le0];have ap: ∀q,(cs++ [Value.string y.uid,.int .u8 y.kind,iv,.int .u8 y.x.op,.int .i64 y.x.n,sv,.int .i64 y.n])[l.length*7+q]? =[Value.string y.uid,.int .u8 y.kind,iv,.int .u8 y.x.op,.int .i64 y.x.n,sv,.int .i64 y.n][q]? :=fun q=>by
    rw[List.getElem?_append_right (by omega),hcl];congr 1;omega
   have a0:=ap 0;rw[Nat.add_zero]at a0;simp only[Nat.sub_self,List.getElem_cons_zero,if_true];exact⟨a0,ap 1,ap 2,ap 3,ap 4,ap 5,ap 6⟩
 ·by_cases hil:i<l.length
  ·simp only[if_neg (show i≠l.length by omega)];rw[List.getElem_append_left hil];obtain⟨s0,s1,s2⟩:=h.sub i hil;exact⟨s0,s1.keep old (fun b hb=>keepB b hb.2.1 hb.2.2),s2.keep old (fun b hb=>keepB b hb.2.1 hb.2.2)⟩
  ·obtain rfl:i=l.length:=by omega
   rw[List.getElem_append_right le0];simp only[Nat.sub_self,List.getElem_cons_zero,if_true];exact⟨hu,hi.keep new keepN,hy.keep new keepN⟩
