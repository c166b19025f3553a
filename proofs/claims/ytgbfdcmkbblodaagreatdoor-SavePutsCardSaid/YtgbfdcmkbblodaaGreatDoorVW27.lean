/- Parts. -/
import Derived.Test.YtgbfdcmkbblodaaGreatDoorVW25
import Derived.Test.YtgbfdcmkbblodaaGreatDoorVW26
import Derived.Test.YtgbfdcmkbblodaaGreatDoorVW10a
namespace Go.Proofs.YtgbfdcmkbblodaaGreatDoor
open Go.RowKit
set_option linter.unusedVariables false
set_option linter.unusedSimpArgs false
set_option maxRecDepth 100000
set_option maxHeartbeats 16000000
open Tryz
attribute [local go_sem↓] Go.wp_at_zero Go.wp_at_succ
theorem results_cell_row3 {P:Program} {fn:Func} {p q r:Tmp} {ty:TypeId} (h:fn.results=#[.cell p ty,.tmp q,.tmp r]) (tmps:Array Value) (w:World) (g:Nat) (t:TypeId) (cs:Array Value) (fr:Nat×Nat) (d:TypeDesc)
  (hp:tmps.getD p undef= .pointer (some ⟨g,0,none⟩)) (hg:w.heap[g]? =some (.cells cs t fr))
  (hu:P.underlying ty=some d) (hd:(match d with| .struct _| .array _ _=>true|_=>false)=true) (hi:(P.info? ty).map (·.size)=some cs.size) (u v:Value) (hq:tmps.getD q undef=u) (hr:tmps.getD r undef=v):
  (results fn tmps).run P w= .ok (.tuple #[.agg cs,u,v]) w:=by
 have hp':tmps[p]?.getD undef= .pointer (some ⟨g,0,none⟩):=by simpa using hp
 have hq':tmps[q]?.getD undef=u:=by simpa using hq
 have hr':tmps[r]?.getD undef=v:=by simpa using hr
 simp[results,h,hp',hq',hr',asAddr,run_loadVar_row w g t ty cs fr d hg hu hd hi]
def ParsePostI (p:Ex×Int×Int) (w:World) (e:Ending) (w':World):Prop:=
 ∃sv,e= .returned (.tuple #[.agg #[.int .u8 p.1.op,.int .i64 p.1.n,sv],.int .i64 p.2.1,.int .i64 p.2.2])/\ArgsIn w' (fun b=>w.heap.size<b/\b<w'.heap.size) p.1.args sv/\Below w.heap.size w w'
theorem parsePost_mk {w w3:World} {x:Ex} {a err:Int} {sv:Value} {p:Ex×Int×Int} (hp:p=(x,a,err)) (h0:Blk w3 w.heap.size 133 #[.int .u8 0,.int .i64 0,.slice none 0 0])
  (ha:ArgsIn w3 (fun b=>w.heap.size<b/\b<w3.heap.size) x.args sv) (hb:Below w.heap.size w w3):
  ParsePostI p w (.returned (.tuple #[.agg #[.int .u8 x.op,.int .i64 x.n,sv],.int .i64 a,.int .i64 err])) (((w3.setCell ⟨w.heap.size,0,none⟩ (.int .u8 x.op)).setCell ⟨w.heap.size,1,none⟩ (.int .i64 x.n)).setCell ⟨w.heap.size,2,none⟩ sv)/\
   Blk (((w3.setCell ⟨w.heap.size,0,none⟩ (.int .u8 x.op)).setCell ⟨w.heap.size,1,none⟩ (.int .i64 x.n)).setCell ⟨w.heap.size,2,none⟩ sv) w.heap.size 133 #[.int .u8 x.op,.int .i64 x.n,sv]:=by
 subst hp;have hF:Fr (fun k=>k=w.heap.size) w3 (((w3.setCell ⟨w.heap.size,0,none⟩ (.int .u8 x.op)).setCell ⟨w.heap.size,1,none⟩ (.int .i64 x.n)).setCell ⟨w.heap.size,2,none⟩ sv):=
  (((Fr.refl (fun k=>k=w.heap.size) w3).setCell (p:=⟨w.heap.size,0,none⟩) (.inl rfl) _).setCell (p:=⟨w.heap.size,1,none⟩) (.inl rfl) _).setCell (p:=⟨w.heap.size,2,none⟩) (.inl rfl) _
 refine⟨⟨sv,rfl,?_,?_⟩,((h0.set 0 _).set 1 _).set 2 _⟩
 ·exact ha.fr hF (fun b hb=>⟨hb.2,by omega⟩) (fun b hb=>⟨hb.1,lt1 hb.2 hF.size⟩)
 ·exact((hb.setCell (p:=⟨w.heap.size,0,none⟩) le0 _).setCell (p:=⟨w.heap.size,1,none⟩) le0 _).setCell (p:=⟨w.heap.size,2,none⟩) le0 _
def parseRes (x:Ex):Option Int->Ex×Int×Int
 |some a=>(Ex.zero,a,80)
 |none=>if 16<deepN 16 x then(Ex.zero,0,81)else(x,0,0)
theorem parseEnd_some (E:Int) (x:Ex) (st:PSt) (h:st.l≠ []):parseEnd E x st=parseRes x (st.fails E).bad:=by
 unfold parseEnd;rw[if_neg h]
 cases (st.fails E).bad<;>rfl
theorem parseEnd_nil (E:Int) (x:Ex) (st:PSt) (h:st.l=[]):parseEnd E x st=parseRes x st.bad:=by
 unfold parseEnd;rw[if_pos h]
 cases st.bad<;>rfl
theorem ParseI_c (s:ByteArray) (w:World):Calls prog 183 #[.string s] w (ParsePostI (parse s) w):=by
 have hB0:=(Below.refl _ w).alloc le0 (.cells #[.int .u8 0,.int .i64 0,.slice none 0 0] 133);have hres:=Blk.new w #[.int .u8 0,.int .i64 0,.slice none 0 0] 133;have HPR:Hd (parse s=if(toks s).2.2≠0 then(Ex.zero,(toks s).2.1,(toks s).2.2)
   else parseEnd (runes s).length (prF (runes s).length 0 ⟨(toks s).1,none⟩).1 (prF (runes s).length 0 ⟨(toks s).1,none⟩).2):=rfl
 obtain⟨target,htg⟩: ∃p,parse s=p:=⟨_,rfl⟩;rw[htg]at HPR⊢;clear htg;have HTK:=Lh (Tokens_c s (w.alloc (.cells #[.int .u8 0,.int .i64 0,.slice none 0 0] 133)));unfold TokPost at HTK;have hsz:(toks s).2.2=0->s.size<=400:=by
  intro h;unfold toks at h;split at h
  ·simp at h
  ·omega
 generalize toks s=tk at*;obtain⟨tl,ta,te⟩:=tk
 try dsimp only at HPR
 try dsimp only at HTK
 try dsimp only at hsz
 by_cases hte:te=0
 ·subst hte;rw[if_neg (by simp)]at HPR;have hs4:=hsz rfl;clear hsz;have hrl:(runes s).length<=s.size:=by have:=runesAt_length s 0;unfold runes;omega
  go_enter func183,ntmps183
  go_wp2_with (go_at_call 214;refine HTK.o.mono ?_;rintro e w1 ⟨v,rfl,hs,hb⟩;obtain⟨g0,av,cv,rfl,g1,g2,g3⟩:=id hs;clear g0 g1 g2 g3)
  have h0:=hres.below hb hres.lt;have hB1:=hB0.trans (hb.mono hB0.size);have hlt0:=h0.lt;have HS:=Lh hs;clear hs hres hB0 hb HTK
  go_loopw [8] (fun n wr=> ∃(pos k:Nat),wr=w1.iter s pos/\n= .int .i64 k/\k+(runesAt s pos).length=(runes s).length) (fun _ wr=>s.size-wr.iterPos w1.heap.size)
  case atStart=>exact⟨0,0,rfl,rfl,by rw[Nat.zero_add];rfl⟩
  case round=>
   obtain⟨pos,k,rfl,rfl,hk⟩:=hrel;by_cases hp:pos<s.size
   ·have hnx: ∀ty,(Instr.next (.pointer (some ⟨w1.heap.size,0,none⟩)) true ty).run prog (w1.iter s pos)=_:=fun ty=>run_next_any w1 s pos ty hp;have hwd:=Lib.decode_width_pos s pos hp;rw[runesAt_step s pos hp,List.length_cons]at hk;have HK:=Lh hk;have hk2:k+1<=s.size:=by omega
    clear hk hrl;go_wp2;go_roundw
    case rel=>exact⟨_,k+1,rfl,by go_num,by have:=HK.o;omega⟩
    case measure=>simp;omega
   ·have hnx: ∀ty,(Instr.next (.pointer (some ⟨w1.heap.size,0,none⟩)) true ty).run prog (w1.iter s pos)=_:=fun ty=>run_next_end w1 s pos ty hp;rw[runesAt_end s pos hp,List.length_nil,Nat.add_zero]at hk;rw[<-hk]at HPR hrl;have HK:=Lh hk;clear hk;have hB1':=hB1.alloc (Nat.le_of_lt hlt0) (.stringIter s pos);have hS1:=Lh (HS.o.below ((Below.refl w1.heap.size w1).alloc le0 (.stringIter s pos)));have hz1:(w1.alloc (.stringIter s pos)).heap.size=w1.heap.size+1:=by simp
    have h0':=h0.alloc (.stringIter s pos);have hIT:w1.iter s pos=w1.alloc (.stringIter s pos):=rfl;rw[hIT]at hnx⊢;clear hIT;generalize w1.alloc _=W1 at*;have hB2:=hB1'.alloc (by omega) (.cells #[.slice av tl.length cv,.int .i64 k,.bool false,.int .i64 0] 281);have h1:=h0'.alloc (.cells #[.slice av tl.length cv,.int .i64 k,.bool false,.int .i64 0] 281);have hrb:=Blk.new W1 #[.slice av tl.length cv,.int .i64 k,.bool false,.int .i64 0] 281;have hrd:RdAt (W1.alloc (.cells #[.slice av tl.length cv,.int .i64 k,.bool false,.int .i64 0] 281)) W1.heap.size k ⟨tl,none⟩:=
     ⟨_,0,hrb,fun b h=>(by cases h),(hS1.o.below ((Below.refl _ W1).alloc (by omega) _)).mono (by omega)⟩
    have HRD:=Lh hrd;have hz2:w.heap.size<W1.heap.size:=by omega
    clear hrd hrb h0 hB1 hB1' h0' hz1 hS1
    go_wp2_with fail
    refine(or_c _ _ _ _ HRD.o).mono ?_;generalize prF (k:Int) 0 ⟨tl,none⟩=p at*;obtain⟨x,st⟩:=p;dsimp only at HPR;have hzr:W1.heap.size<(W1.alloc (.cells #[.slice av tl.length cv,.int .i64 k,.bool false,.int .i64 0] 281)).heap.size:=by simp
    generalize W1.alloc _=W2 at*;generalize W1.heap.size=br at*;rintro e w3 ⟨_,rfl,ha,hr,hf⟩;dsimp only at ha hr⊢;obtain⟨a9,n9,c9,rfl⟩:=ha.slice
    go_upto_region 10 with fail
    have hs3:=hf.size;have hfA:=hf.alloc (.cells #[.int .u8 x.op,.int .i64 x.n,.slice a9 n9 c9] 133);have h2:=h1.fr hfA (by omega);have hX:=Blk.new w3 #[.int .u8 x.op,.int .i64 x.n,.slice a9 n9 c9] 133;have hB3:=hB2.trans (hfA.below (B:=w.heap.size) (by omega) (fun k hk=>by omega));have hD3:=hr.keep ((Below.refl _ w3).alloc le0 (.cells #[.int .u8 x.op,.int .i64 x.n,.slice a9 n9 c9] 133));have ha3:=ha.fr (Q:=fun b=>w.heap.size<b/\br<b/\b<w3.heap.size) ((Fr.refl (fun k=>k=br) w3).alloc (.cells #[.int .u8 x.op,.int .i64 x.n,.slice a9 n9 c9] 133)) (fun b hb=>⟨hb.2,by omega⟩) (fun b hb=>⟨by omega,by omega,hb.2⟩);generalize hxb:w3.heap.size=xb at*;have hs5:xb<(w3.alloc (.cells #[.int .u8 x.op,.int .i64 x.n,.slice a9 n9 c9] 133)).heap.size:=hX.lt;generalize w3.alloc _=W4 at*;have HD:=Lh hD3;have HX:=Lh hX;have HA:=Lh ha3;have H2:=Lh h2;obtain⟨v0,a0,hb4,ha4,hs4'⟩:=hD3.ex;obtain⟨_,av2,cv2,rfl,g1,g2,_⟩:=id hs4';have hn:st.l.length<=9223372036854775807:=by unfold maxLen at g2;omega
    have b0:=hb4.cell 0;have b2:=hb4.cell 2;clear g1 g2 h1 h2 hX ha3 ha hr hf hfA hB2 HRD hD3 hnx ha4 hs4' hb4;have hz5:=hs5;by_cases hle:0<st.l.length
    ·have hne:st.l≠ []:=by intro h;rw[h]at hle;simp at hle
     have HP5:Hd (target=parseRes x (st.fails k).bad):=HPR.o.trans (parseEnd_some _ _ _ hne);clear hne
     go_upto_region 12 with (go_at_call 216;refine(fails_c br k st _ HD.o).mono ?_;rintro e w5 ⟨rfl,h5,hf5⟩)
     have HD5:=Lh h5;have H25:=Lh (H2.o.fr hf5 (by omega));have HX5:=Lh (HX.o.fr hf5 (by omega));have hz6:=hf5.size;have HA5:=Lh (HA.o.fr (Q:=fun b=>w.heap.size<b/\b<w5.heap.size) hf5 (fun b hb=>⟨by omega,by omega⟩) (fun b hb=>⟨hb.1,by omega⟩));have HB5:=Lh (hB3.trans (hf5.below (B:=w.heap.size) (by omega) (fun k hk=>by omega)));generalize st.fails k=st5 at*;generalize w5=W5 at*;clear HD H2 HX HA hB3 b0 b2 h5 hf5 hle hn HPR;obtain⟨v5,a5,hb5,ha5,hs6⟩:=HD5.o.ex;have d2:=hb5.cell 2;have d3:=hb5.cell 3;obtain⟨z0,z1,z2⟩:=H25.o.q3;obtain⟨k0,k1,k2⟩:=H25.o.u3;obtain⟨x0,x1,x2⟩:=HX5.o.q3;have hl5:=HX5.o.lt;have hl6:=H25.o.lt
     cases hbd:st5.bad with
     |some b=>
      have e5:=ha5 b hbd;subst e5;rw[hbd]at d2 HP5;simp only[Option.isSome_some]at d2;clear hb5 ha5 hs6 hbd
      go_upto_region 13 with fail
      go_region_with fail
      all_goals
       go_wp2_with fail
       obtain⟨p1,p2⟩:=parsePost_mk (w3:=W5.drew) (x:=Ex.zero) HP5.o H25.o (.nil none 0 ze0) HB5.o.drew;refine bodyPost_ret (v:= .tuple #[.agg #[_,_,_],_,_]) (results_cell_row3 rfl _ _ w.heap.size 133 _ (0,0) _ rfl p2 underlying133 rfl ?_ (.int .i64 a5) (.int .i64 80) rfl rfl) rfl p1
       as_aux_lemma=>kernel_rfl
     |none=>
      rw[hbd]at d2 HP5;simp only[Option.isSome_none]at d2;clear hb5 ha5 hs6 hbd;have hE:ExAt W5 W5.heap.size (.agg #[.int .u8 x.op,.int .i64 x.n,.slice a9 n9 c9]) x:=⟨_,rfl,HA5.o.toAt fun b hb=>hb.2⟩;have HE:=Lh hE;have hdl:=deepN_le 16 x;have hP6:(16<deepN 16 x/\target=(Ex.zero,0,81))\/(¬16<deepN 16 x/\target=(x,0,0)):=by
       rw[HP5.o];by_cases h:16<deepN 16 x
       ·exact .inl ⟨h,by unfold parseRes;rw[if_pos h]⟩
       ·exact .inr ⟨h,by unfold parseRes;rw[if_neg h]⟩
      generalize hdd:deepN 16 x=dd at*;have HDD:=Lh hdd;clear hE hdd;rcases hP6 with ⟨hd1,hp6⟩|⟨hd1,hp6⟩
      all_goals
       have HP6:=Lh hp6;clear hp6
       go_wp2_with (go_at_call 217;refine(Deep_c x _ _ _ HE.o le0).mono ?_;rw[HDD.o];rintro e w6 ⟨rfl,hb6⟩;have H26:=H25.o.below hb6 hl6;have HX6:=HX5.o.below hb6 hl5;obtain⟨y0,y1,y2⟩:=H26.q3;obtain⟨q0,q1,q2⟩:=H26.u3;obtain⟨p0,p1,p2⟩:=HX6.q3)
       first
       |(obtain⟨e1,e2⟩:=parsePost_mk (x:=Ex.zero) HP6.o H26 (.nil none 0 ze0) (HB5.o.trans (hb6.mono (Nat.le_of_lt hl6)));refine bodyPost_ret (v:= .tuple #[.agg #[_,_,_],_,_]) (results_cell_row3 rfl _ _ w.heap.size 133 _ (0,0) _ rfl e2 underlying133 rfl ?_ (.int .i64 0) (.int .i64 81) rfl rfl) rfl e1;as_aux_lemma=>kernel_rfl)
       |(obtain⟨e1,e2⟩:=parsePost_mk (x:=x) HP6.o H26 (HA5.o.fr (Q:=fun b=>w.heap.size<b/\b<w6.heap.size) (Fr.of_new (S:=fun _=>False) hb6) (fun b hb=>⟨hb.2,id⟩) (fun b hb=>⟨hb.1,lt1 hb.2 hb6.size⟩)) (HB5.o.trans (hb6.mono (Nat.le_of_lt hl6)));refine bodyPost_ret (v:= .tuple #[.agg #[_,_,_],_,_]) (results_cell_row3 rfl _ _ w.heap.size 133 _ (0,0) _ rfl e2 underlying133 rfl ?_ (.int .i64 0) (.int .i64 0) rfl rfl) rfl e1;as_aux_lemma=>kernel_rfl)
    ·have hne:st.l=[]:=by cases h:st.l with|nil=>rfl|cons a l=>rw[h]at hle;simp at hle
     have HP5:Hd (target=parseRes x st.bad):=HPR.o.trans (parseEnd_nil _ _ _ hne);clear hne
     go_upto_region 12 with fail
     have HD5:=HD;have H25:=H2;have HX5:=HX;have HA5:=Lh (HA.o.mono (Q:=fun b=>w.heap.size<b/\b<W4.heap.size) (fun b hb=>⟨hb.1,by omega⟩));have HB5:=Lh hB3;generalize st=st5 at*;generalize W4=W5 at*;clear HD H2 HX HA hB3 b0 b2 hle hn HPR;obtain⟨v5,a5,hb5,ha5,hs6⟩:=HD5.o.ex;have d2:=hb5.cell 2;have d3:=hb5.cell 3;obtain⟨z0,z1,z2⟩:=H25.o.q3;obtain⟨k0,k1,k2⟩:=H25.o.u3;obtain⟨x0,x1,x2⟩:=HX5.o.q3;have hl5:=HX5.o.lt;have hl6:=H25.o.lt
     cases hbd:st5.bad with
     |some b=>
      have e5:=ha5 b hbd;subst e5;rw[hbd]at d2 HP5;simp only[Option.isSome_some]at d2;clear hb5 ha5 hs6 hbd
      go_upto_region 13 with fail
      go_region_with fail
      all_goals
       go_wp2_with fail
       obtain⟨p1,p2⟩:=parsePost_mk (w3:=W5.drew) (x:=Ex.zero) HP5.o H25.o (.nil none 0 ze0) HB5.o.drew;refine bodyPost_ret (v:= .tuple #[.agg #[_,_,_],_,_]) (results_cell_row3 rfl _ _ w.heap.size 133 _ (0,0) _ rfl p2 underlying133 rfl ?_ (.int .i64 a5) (.int .i64 80) rfl rfl) rfl p1
       as_aux_lemma=>kernel_rfl
     |none=>
      rw[hbd]at d2 HP5;simp only[Option.isSome_none]at d2;clear hb5 ha5 hs6 hbd;have hE:ExAt W5 W5.heap.size (.agg #[.int .u8 x.op,.int .i64 x.n,.slice a9 n9 c9]) x:=⟨_,rfl,HA5.o.toAt fun b hb=>hb.2⟩;have HE:=Lh hE;have hdl:=deepN_le 16 x;have hP6:(16<deepN 16 x/\target=(Ex.zero,0,81))\/(¬16<deepN 16 x/\target=(x,0,0)):=by
       rw[HP5.o];by_cases h:16<deepN 16 x
       ·exact .inl ⟨h,by unfold parseRes;rw[if_pos h]⟩
       ·exact .inr ⟨h,by unfold parseRes;rw[if_neg h]⟩
      generalize hdd:deepN 16 x=dd at*;have HDD:=Lh hdd;clear hE hdd;rcases hP6 with ⟨hd1,hp6⟩|⟨hd1,hp6⟩
      all_goals
       have HP6:=Lh hp6;clear hp6
       go_wp2_with (go_at_call 217;refine(Deep_c x _ _ _ HE.o le0).mono ?_;rw[HDD.o];rintro e w6 ⟨rfl,hb6⟩;have H26:=H25.o.below hb6 hl6;have HX6:=HX5.o.below hb6 hl5;obtain⟨y0,y1,y2⟩:=H26.q3;obtain⟨q0,q1,q2⟩:=H26.u3;obtain⟨p0,p1,p2⟩:=HX6.q3)
       first
       |(obtain⟨e1,e2⟩:=parsePost_mk (x:=Ex.zero) HP6.o H26 (.nil none 0 ze0) (HB5.o.trans (hb6.mono (Nat.le_of_lt hl6)));refine bodyPost_ret (v:= .tuple #[.agg #[_,_,_],_,_]) (results_cell_row3 rfl _ _ w.heap.size 133 _ (0,0) _ rfl e2 underlying133 rfl ?_ (.int .i64 0) (.int .i64 81) rfl rfl) rfl e1;as_aux_lemma=>kernel_rfl)
       |(obtain⟨e1,e2⟩:=parsePost_mk (x:=x) HP6.o H26 (HA5.o.fr (Q:=fun b=>w.heap.size<b/\b<w6.heap.size) (Fr.of_new (S:=fun _=>False) hb6) (fun b hb=>⟨hb.2,id⟩) (fun b hb=>⟨hb.1,lt1 hb.2 hb6.size⟩)) (HB5.o.trans (hb6.mono (Nat.le_of_lt hl6)));refine bodyPost_ret (v:= .tuple #[.agg #[_,_,_],_,_]) (results_cell_row3 rfl _ _ w.heap.size 133 _ (0,0) _ rfl e2 underlying133 rfl ?_ (.int .i64 0) (.int .i64 0) rfl rfl) rfl e1;as_aux_lemma=>kernel_rfl)
 ·have hte':(te !=0)=true:=by simpa using hte
  have HE:=Lh (HPR.o.trans (if_pos hte));clear HPR hte;go_enter func183,ntmps183
  go_wp2_with (go_at_call 214;refine HTK.o.mono ?_;rintro e w1 ⟨v,rfl,hs,hb⟩;have h0:=hres.below hb hres.lt;obtain⟨z0,z1,z2⟩:=h0.q3;obtain⟨k0,k1,k2⟩:=h0.u3;clear hs)
  obtain⟨p1,p2⟩:=parsePost_mk (x:=Ex.zero) HE.o h0 (.nil none 0 ze0) (hB0.trans (hb.mono hB0.size));refine bodyPost_ret (v:= .tuple #[.agg #[_,_,_],_,_]) (results_cell_row3 rfl _ _ w.heap.size 133 _ (0,0) _ rfl p2 underlying133 rfl ?_ (.int .i64 ta) (.int .i64 te) rfl rfl) rfl p1
  as_aux_lemma=>kernel_rfl
