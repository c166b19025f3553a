/- Parts. -/
import Derived.Test.YtgbfdcmkbblodaaGreatDoorVY21
import Derived.Test.YtgbfdcmkbblodaaGreatDoorVY41
namespace Go.Proofs.YtgbfdcmkbblodaaGreatDoor
open Go.RowKit
set_option linter.unusedVariables false
set_option linter.unusedSimpArgs false
set_option maxRecDepth 100000
set_option maxHeartbeats 16000000
open Tryz
theorem info_ndN:(prog.info? 135).map (fun i=>(i.zero,i.size,i.bytes))=some (some (.agg #[.string ⟨#[]⟩,.int .u8 0,.slice none 0 0,.int .u8 0,.int .i64 0,.slice none 0 0,.int .i64 0]),7,96):=by kernel_rfl
theorem set3_other (w:World) {g b:Nat} (h:b≠g) (i0 i1 i2:Nat) (u0 u1 u2:Value):(((w.setCell ⟨g,i0,none⟩ u0).setCell ⟨g,i1,none⟩ u1).setCell ⟨g,i2,none⟩ u2).heap[b]? =w.heap[b]? :=
 (heap_setCell_other _ ⟨g,i2,none⟩ b u2 h).trans ((heap_setCell_other _ ⟨g,i1,none⟩ b u1 h).trans (heap_setCell_other _ ⟨g,i0,none⟩ b u0 h))
theorem set3_size (w:World) (g i0 i1 i2:Nat) (u0 u1 u2:Value):(((w.setCell ⟨g,i0,none⟩ u0).setCell ⟨g,i1,none⟩ u1).setCell ⟨g,i2,none⟩ u2).heap.size=w.heap.size:=by simp
theorem pNd_uid {j:Jb} {l:List ByteArray} {d:Nd} (h:pNd j l=some d):d.uid∈l:=by
 match l,h with
 | [],h=>cases h
 | [_],h=>cases h
 |u::k::r,h=>
  unfold pNd at h;simp only at h;split at h
  ·cases h
  ·split at h
   ·cases h
   ·split at h
    ·cases h
    ·cases h;simp
theorem line_node (j:Jb) (s:ByteArray) (jb B0:Nat) (P:Nat->Prop) (av:Value) (cs:List Value) (ivs svs:Nat->Value) (w:World) (hj:Blk w jb 24 #[.int .i64 j.par,av]) (hn:NRw B0 P w j.nodes av cs ivs svs) (hB0:jb<B0) (hB1:B0<=w.heap.size) (hP: ∀b,P b->B0<=b) (hs:s.size<=maxLen)
    (hnl:j.nodes.length<=70000):Calls prog 154 #[.pointer (some ⟨jb,0,none⟩),.string s,.bool false] w (LinePost j s false jb B0 P av w):=by
  have hlw:=words_le (ba (aheadL s));have hla:=ahead_le s;have HP:Hd (pLine j s false=if(wordsB (ba (aheadL s))).2≠0 then(j,(wordsB (ba (aheadL s))).2)else match pNd j (wordsB (ba (aheadL s))).1 with
    |none=>(j,130)
    | some d => if hasK d.kind ≠ hasColon s then (j, 130) else
      if hasColon s=true then
        (if(parse (ba (Lib.trimLeftS (ba (behindL s)).data.toList [32,9]))).2.2≠0 then(j,(parse (ba (Lib.trimLeftS (ba (behindL s)).data.toList [32,9]))).2.2)
         else(⟨j.par,j.nodes++ [⟨d.uid,d.kind,d.ins,(parse (ba (Lib.trimLeftS (ba (behindL s)).data.toList [32,9]))).1,d.n⟩]⟩,0))
      else(⟨j.par,j.nodes++ [d]⟩,0)):=rfl
  have HJ:=Lh hj;have HN:=Lh hn;have hjl:=hj.lt;have HPT:=Lh (sparts_c s w hs);have HWD:Hd (∀w,Calls prog 179 #[.string (ba (aheadL s))] w (WordsPost (ba (aheadL s)) w)):=fun w=>Words_c _ w (by omega);unfold WordsPost at HWD;have HTL:Hd (∀w,Calls prog 184 #[.string (ba (behindL s)),.string {data:=#[32,9]}] w fun e w'=>e= .returned (.string (ba (Lib.trimLeftS (ba (behindL s)).data.toList [32,9])))/\Below w.heap.size w w'):=fun w=>strimL_c _ w;have HPA:Hd (∀w,Calls prog 183 #[.string (ba (Lib.trimLeftS (ba (behindL s)).data.toList [32,9]))] w (ParsePostI (parse (ba (Lib.trimLeftS (ba (behindL s)).data.toList [32,9]))) w)):=fun w=>ParseI_c _ w;have LP:Hd (∀(z:Int) (w':World),pLine j s false=(j,z)->Below w.heap.size w w'->LinePost j s false jb B0 P av w (.returned (.int .i64 z)) w'):=fun z w' h hb=>linePost_same h hj hn hb;generalize wordsB (ba (aheadL s))=W at*;generalize ba (aheadL s)=A at*;generalize hasColon s=C at*;generalize ba (behindL s)=BH at*;generalize ba (Lib.trimLeftS BH.data.toList [32,9])=TR at*;generalize parse TR=PR at*;obtain⟨px,pa,pe⟩:=PR;obtain⟨wl,we⟩:=W;dsimp only at hlw HP;clear hj hn hla;go_enter func154,ntmps154
  go_wp2_with fail
  refine HPT.o.mono ?_;rintro e w1 ⟨rfl,hb1⟩
  go_wp2_with fail
  refine(HWD.o w1).mono ?_;rintro e w2 ⟨v,rfl,hsl,hb2⟩;have hb3:=hb1.trans (hb2.mono hb1.size);obtain⟨_,a,cap,rfl,hcap,hmx,_⟩:=id hsl;have HSL:=Lh hsl;clear hsl HPT HWD hb1 hb2;by_cases he:we=0
  · subst he
    rw[if_neg (fun h=>h rfl)]at HP;have hj2:=HJ.o.below hb3 hjl;have hn2:=HN.o.keepP (P':=P) hb3.size (fun q hq=>hb3.block q (HN.o.own.lt q hq).2) (fun b hp hl _=>⟨hp,hb3.block b hl⟩);have j0:=hj2.cell 0;have j1:=hj2.cell 1;have HND:=Lh (node_c j wl (.agg #[.int .i64 j.par,av]) (.slice a wl.length cap) w2 ⟨av,rfl,hn2.nodes le0⟩ HSL.o (fun u hu=>by have:=hlw.2 u hu;unfold maxLen;omega) (by have:=hlw.1;omega));unfold NodePost at HND;have HUD:Hd (∀d,pNd j wl=some d->d.uid.size<=maxLen):=fun d h=>by have:=hlw.2 _ (pNd_uid h);unfold maxLen;omega
    have hw2:w.heap.size<=w2.heap.size:=hb3.size;clear hj2 hn2 hcap hmx hlw HSL
    go_wp2_with fail
    refine HND.o.mono ?_;rintro e w3 ⟨hb4,u,k,ia,ic,n,m,rfl,hd⟩;have hb5:=hb3.trans (hb4.mono hb3.size);have HD:=Lh hd;clear hd j0 j1 HND hb3 hb4;generalize pNd j wl=pn at*;have hY:=Blk.new w3 #[.string u,.int .u8 k,.slice ia n ic,.int .u8 0,.int .i64 0,.slice none 0 0,.int .i64 m] 135;have hb6:=hb5.alloc hb5.size (.cells #[.string u,.int .u8 k,.slice ia n ic,.int .u8 0,.int .i64 0,.slice none 0 0,.int .i64 m] 135);have hsz:(w3.alloc (.cells #[.string u,.int .u8 k,.slice ia n ic,.int .u8 0,.int .i64 0,.slice none 0 0,.int .i64 m] 135)).heap.size=w3.heap.size+1:=by simp
    have hb7:=(Below.refl w3.heap.size w3).alloc le0 (.cells #[.string u,.int .u8 k,.slice ia n ic,.int .u8 0,.int .i64 0,.slice none 0 0,.int .i64 m] 135);have hw3:w.heap.size<=w3.heap.size:=hb5.size
    cases pn with
    | none =>
      go_upto_region 14 with fail
      generalize World.alloc w3 _=W4 at*
      go_wp2_with fail
      go_ret;exact LP.o _ _ HP.o hb6
    | some d =>
      obtain⟨rfl,rfl,rfl,hdx,hdi⟩:=HD.o d rfl;have HUI:=Lh (HUD.o d rfl);have hI4:InsP (w3.alloc (.cells #[.string d.uid,.int .u8 d.kind,.slice ia n ic,.int .u8 0,.int .i64 0,.slice none 0 0,.int .i64 d.n] 135)) (fun b=>w.heap.size<=b/\b<w3.heap.size) d.ins (.slice ia n ic):=
        hdi.keep (fun b hb=>⟨le1 hw2 hb.1,hb.2⟩) (fun b hb=>alloc_old _ _ _ hb.2)
      clear HD hdi HUD
      go_upto_region 14 with fail
      generalize World.alloc w3 _=W4 at*;generalize w3.heap.size=bn at*;have HI4:=Lh hI4;have HY:=Lh hY;have k1:=hY.cell 1;have HKC:=Lh (hasK_c d.kind W4);clear hI4 hY;by_cases hk:hasK d.kind=C
      · rw[hk]at HKC
        replace HP:Hd (pLine j s false=if hasK d.kind≠C then(j,130)else if C=true then(if pe≠0 then(j,pe)else(⟨j.par,j.nodes++ [⟨d.uid,d.kind,d.ins,px,d.n⟩]⟩,0))else(⟨j.par,j.nodes++ [d]⟩,0)):=HP;rw[if_neg (fun h=>h hk)]at HP;have hcc:(C !=C)=false:=by cases C<;>rfl
        clear hk
        go_upto_if 73 with (go_at_call 182;refine HKC.o.mono ?_;rintro e w' ⟨rfl,rfl⟩)
        go_cut [11] (fun s11 wx=> ∃x sa sn sc,Blk wx bn 135 #[.string d.uid,.int .u8 d.kind,.slice ia n ic,.int .u8 x.op,.int .i64 x.n,.slice sa sn sc,.int .i64 d.n]/\ArgsIn wx (fun b=>w.heap.size<=b/\b<wx.heap.size) x.args (.slice sa sn sc)/\InsP wx (fun b=>w.heap.size<=b/\b<wx.heap.size) d.ins (.slice ia n ic)/\Below w.heap.size w wx/\bn<wx.heap.size/\pLine j s false=(⟨j.par,j.nodes++ [⟨d.uid,d.kind,d.ins,x,d.n⟩]⟩,0))
        case first=>
          cases C with
          | false =>
            rw[if_neg (fun h=>by cases h)]at HP
            go_wp2_with fail
            go_meet;refine⟨Ex.zero,none,0,0,HY.o,.nil none 0 (by unfold maxLen;omega),HI4.o.keep (fun b hb=>⟨hb.1,by omega⟩) (fun _ _=>rfl),hb6,by omega,?_⟩;rw[HP.o,<-hdx]
          | true =>
            rw[if_pos rfl]at HP
            go_wp2_with fail
            refine(HTL.o W4).mono ?_;rintro e w5 ⟨rfl,hb8⟩
            go_wp2_with fail
            refine(HPA.o w5).mono ?_;rintro e w6 ⟨sv,rfl,ha,hb9⟩;obtain⟨sa,sn,sc,rfl⟩:=ha.slice;have hbA:=hb8.trans (hb9.mono hb8.size);have hY6:=HY.o.below hbA (by omega);have hs6:=hbA.size;have x3:=hY6.cell 3;have x4:=hY6.cell 4;have x5:=hY6.cell 5;have y3:=hY6.free 3;have y4:=hY6.free 4;have y5:=hY6.free 5;dsimp only at HP ha;have HA:=Lh ha;have HY6:=Lh hY6;clear ha hY6 k1;by_cases hpe:pe=0
            · subst hpe
              rw[if_neg (fun h=>h rfl)]at HP
              go_wp2_with fail
              go_meet;have hs5:W4.heap.size<=w5.heap.size:=hb8.size;have hbB:=hb6.trans (hbA.mono hb6.size);have hS:=((hbB.setCell (p:=⟨bn,3,none⟩) hw3 (.int .u8 px.op)).setCell (p:=⟨bn,4,none⟩) hw3 (.int .i64 px.n)).setCell (p:=⟨bn,5,none⟩) hw3 (.slice sa sn sc);have hz:=set3_size w6 bn 3 4 5 (.int .u8 px.op) (.int .i64 px.n) (.slice sa sn sc);refine⟨px,sa,sn,sc,((HY6.o.set 3 (.int .u8 px.op)).set 4 (.int .i64 px.n)).set 5 (.slice sa sn sc),HA.o.keep (fun b hb=>⟨by have:=hb.1;omega,by rw[hz];exact hb.2⟩) (fun b hb=>set3_other w6 (by have:=hb.1;omega) _ _ _ _ _ _),HI4.o.keep (fun b hb=>⟨hb.1,by rw[hz];have:=hb.2;omega⟩) (fun b hb=>(set3_other w6 (by have:=hb.2;omega) _ _ _ _ _ _).trans (hbA.block b (by have:=hb.2;omega))),hS,by rw[hz];omega,HP.o⟩
            · have hpb:(pe !=0)=true:=by rw[bne_iff_ne];exact hpe
              rw[if_pos hpe]at HP
              go_wp2_with fail
              go_ret;refine LP.o _ _ HP.o ?_;have hbB:=hb6.trans (hbA.mono hb6.size);exact((hbB.setCell (p:=⟨bn,3,none⟩) hw3 _).setCell (p:=⟨bn,4,none⟩) hw3 _).setCell (p:=⟨bn,5,none⟩) hw3 _
        case rest=>
          obtain⟨x,sa,sn,sc,hY,ha,hi,hb,hbn,hpl⟩:=hcut;have hn5:=HN.o.keepP (P':=P) hb.size (fun q hq=>hb.block q (HN.o.own.lt q hq).2) (fun b hp hl _=>⟨hp,hb.block b hl⟩);have hj5:=HJ.o.below hb hjl;have hlt0: ∀q,av.ownBlock=some q->B0<=q/\q<w.heap.size:=HN.o.own.lt;obtain⟨aa,ac,hav,_,_⟩:=(hn5.nodes le0).slice;subst hav;obtain⟨i0,ni,nz0,nz1,nz2⟩:=info_parts info_ndN;have j1:=hj5.cell 1;have f1:=hj5.free 1;obtain⟨d0,d1,d2,d3,d4,d5,d6⟩:=hY.q7;have HA:=Lh ha;have HI:=Lh hi;have HBL:=Lh hb;have HN5:=Lh hn5;have HJ5:=Lh hj5;have HLT:=Lh hlt0;have HPL:=Lh hpl;have hwc:w.heap.size<=wc.heap.size:=hb.size;clear ha hi hb hn5 hj5 hlt0 hpl HI4 HY hb6 hb7 hb5 LP HTL HPA HP k1 hsz
          go_upto_region 20 with fail
          have hszX:((wc.alloc (.cells #[.string d.uid,.int .u8 d.kind,.slice ia n ic,.int .u8 x.op,.int .i64 x.n,.slice sa sn sc,.int .i64 d.n] 135)).drew).heap.size=wc.heap.size+1:=by simp
          have j1a:=(HJ5.o.alloc (.cells #[.string d.uid,.int .u8 d.kind,.slice ia n ic,.int .u8 x.op,.int .i64 x.n,.slice sa sn sc,.int .i64 d.n] 135)).cell 1;have HNW:Hd (∀q u,(#[.string d.uid,.int .u8 d.kind,.slice ia n ic,.int .u8 x.op,.int .i64 x.n,.slice sa sn sc,.int .i64 d.n]:Array Value).toList[q]? =some u->(wc.alloc (.cells #[.string d.uid,.int .u8 d.kind,.slice ia n ic,.int .u8 x.op,.int .i64 x.n,.slice sa sn sc,.int .i64 d.n] 135)).drew.cell? ((⟨wc.heap.size,0,none⟩:Addr).add q)=some u):=World.news_of_block (Blk.new wc #[.string d.uid,.int .u8 d.kind,.slice ia n ic,.int .u8 x.op,.int .i64 x.n,.slice sa sn sc,.int .i64 d.n] 135).drew;refine wp_region_held_drew (S:=(fun w'=>Blk w' bn 135 #[.string d.uid,.int .u8 d.kind,.slice ia n ic,.int .u8 x.op,.int .i64 x.n,.slice sa sn sc,.int .i64 d.n])) (by kernel_rfl) ?_ (fun hHeld=>tk0 ?_)
          · exact hY.drew
          repeat' first
            |refine tkN ?_
            |(refine tkX ?_;try simp only[Act.put,tkA,tkB,tkC,tkD,tkE,tkF])
            |(refine tkt (v:=?_) (by decide+kernel) rfl (by rfl) (fun _ _ _ h=>h) (by assumption) ?_ ?_;rotate_left;(· intro w' hSw;(try dsimp only at hSw);obtain⟨e0,e1,e2,e3,e4,e5,e6⟩:=hSw.q7;clear hSw;go_simp;(try with_reducible rfl));try simp only[Act.put,tkA,tkB,tkC,tkD,tkE,tkF])
            |refine tkM ?_
            |refine tkZ ?_
            |refine tkB1 ?_
            |refine brN ?_
            |exact brE
            |refine brc rfl (fun K hK=>?_) ?_
            |(replace hK:=hK;refine opIs 1 (by decide+kernel) ?_;go_simp;refine hK.out _ _ ?_ (fun hHeld=>?_);(· first|exact hHeld|exact Blk.alloc hHeld _);clear hK K;try simp only[Act.put,tkA,tkB,tkC,tkD,tkE,tkF])
            |(replace hK:=hK;refine opIs 5 (by decide+kernel) ?_;go_simp;refine hK.out _ _ ?_ (fun hHeld=>?_);(· first|exact hHeld|exact Blk.alloc hHeld _);clear hK K;try simp only[Act.put,tkA,tkB,tkC,tkD,tkE,tkF])
            |(replace hK:=hK;refine opIs 3 (by decide+kernel) ?_;refine step_append_lies _ (by rfl) _ _ _ (by rfl) B0 135 i0 (.agg #[.string ⟨#[]⟩,.int .u8 0,.slice none 0 0,.int .u8 0,.int .i64 0,.slice none 0 0,.int .i64 0]) 7 96 underlying22 ni nz0 nz1 nz2 rfl (by decide) (.slice aa j.nodes.length ac) j.nodes.length cs (by rfl) (HN5.o.own.alloc (.cells #[.string d.uid,.int .u8 d.kind,.slice ia n ic,.int .u8 x.op,.int .i64 x.n,.slice sa sn sc,.int .i64 d.n] 135)).drew ⟨wc.heap.size,0,none⟩ 1 1 (#[.string d.uid,.int .u8 d.kind,.slice ia n ic,.int .u8 x.op,.int .i64 x.n,.slice sa sn sc,.int .i64 d.n]).toList (by rfl) (by rfl) HNW.o (by simp[Value.oneCell']) (by decide) (by unfold maxLen;omega) (by omega) (by rw[hszX];omega) _ hszX ?_;intro g capg w5 hown hg hat hlt;have hgo: ∀q,(Value.slice aa j.nodes.length ac).ownBlock=some q->B0<=q/\q<w.heap.size:=HLT.o;have hjA:=(HJ5.o.alloc (.cells #[.string d.uid,.int .u8 d.kind,.slice ia n ic,.int .u8 x.op,.int .i64 x.n,.slice sa sn sc,.int .i64 d.n] 135)).drew.grown hg (fun e=>by have:=hgo _ e.symm;omega);have hyA:=(hY.alloc (.cells #[.string d.uid,.int .u8 d.kind,.slice ia n ic,.int .u8 x.op,.int .i64 x.n,.slice sa sn sc,.int .i64 d.n] 135)).drew.grown hg (fun e=>by have:=hgo _ e.symm;omega);have j1:=hjA.cell 1;have f1:=hjA.free 1;have HJA:=Lh hjA;have HYA:=Lh hyA;clear hjA hyA;refine hK.out _ _ ?_ (fun hHeld=>?_);(· exact HYA.o);clear hK K;try simp only[Act.put,tkA,tkB,tkC,tkD,tkE,tkF])
            |(replace hK:=hK;refine opIs 2 (by decide+kernel) ?_;go_simp;refine hK.out _ _ ?_ (fun hHeld=>?_);(· exact HYA.o.other (p:=⟨jb,1,none⟩) (by show bn≠jb;omega) _);clear hK K;try simp only[Act.put,tkA,tkB,tkC,tkD,tkE,tkF])
            |fail
          all_goals
            go_wp2_with fail
            go_ret;have hg2:(wc.alloc (.cells #[.string d.uid,.int .u8 d.kind,.slice ia n ic,.int .u8 x.op,.int .i64 x.n,.slice sa sn sc,.int .i64 d.n] 135)).grownBy w5 (Value.slice aa j.nodes.length ac).ownBlock:=⟨hg.os,hg.tape,hg.output,hg.size,hg.block⟩;have hat2:(Value.slice aa j.nodes.length ac).ownBlock=some g\/g=(wc.alloc (.cells #[.string d.uid,.int .u8 d.kind,.slice ia n ic,.int .u8 x.op,.int .i64 x.n,.slice sa sn sc,.int .i64 d.n] 135)).heap.size:=hat.imp id (fun h=>by rw[h];exact hszX.symm);have hN6:=HN5.o.snoc (P':=fun b=>P b\/w.heap.size<=b) (wx:=w) (y:=⟨d.uid,d.kind,d.ins,x,d.n⟩) (fun b h=> .inl h) (fun b h _=> .inr h) (fun q hq=>(hgo q hq).2) hwc hB1 HUI.o HI.o HA.o hg2 hat2 hlt hown;have hfr:Fr (fun k=>k=jb\/(Value.slice aa j.nodes.length ac).ownBlock=some k) w (w5.setCell ⟨jb,1,none⟩ (.slice (some ⟨g,0,none⟩) (j.nodes.length+1) capg)):=
              (((Fr.of_new HBL.o).alloc _).grown hg2 (fun q hq=> .inl (.inr hq))).setCell (p:=⟨jb,1,none⟩) (.inl (.inl rfl)) _
            unfold LinePost;rw[HPL.o];refine⟨rfl,hfr,_,_,_,_,HJA.o.set 1 _,hN6.keepP (Nat.le_of_eq (by simp)) (fun q hq=>heap_setCell_other w5 ⟨jb,1,none⟩ q _ (fun e=>?_)) (fun b hb _ _=>⟨hb,heap_setCell_other w5 ⟨jb,1,none⟩ b _ (fun e=>?_)⟩)⟩
            · have:=(hN6.own.lt q hq).1
              dsimp only at e;omega
            · dsimp only at e
              rcases hb with hb|hb
              · have:=hP b hb;omega
              · omega
      · have hh:hasK d.kind=!C:=by cases C<;>cases h:hasK d.kind<;>simp_all
        replace HP:Hd (pLine j s false=if hasK d.kind≠C then(j,130)else if C=true then(if pe≠0 then(j,pe)else(⟨j.par,j.nodes++ [⟨d.uid,d.kind,d.ins,px,d.n⟩]⟩,0))else(⟨j.par,j.nodes++ [d]⟩,0)):=HP;rw[if_pos hk]at HP;rw[hh]at HKC;clear hk hh
        cases C
        all_goals
          go_wp2_with (go_at_call 182;refine HKC.o.mono ?_;rintro e w' ⟨rfl,rfl⟩)
          go_ret;exact LP.o _ _ HP.o hb6
  · have heb:(we !=0)=true:=by rw[bne_iff_ne];exact he
    rw[if_pos he]at HP
    go_wp2_with fail
    go_ret;exact LP.o _ _ HP.o hb3
def ScriptIn (p:Jb×Int×Int) (w:World) (e:Ending) (w':World):Prop:=
 ∃sv,e= .returned (.tuple #[.agg #[.int .i64 p.1.par,sv],.int .i64 p.2.1,.int .i64 p.2.2])/\NodesIn w' (fun b=>w.heap.size<=b/\b<w'.heap.size) p.1.nodes sv/\Below w.heap.size w w'
theorem scriptIn_zero {p:Jb×Int×Int} {w w':World} {a e:Int} (hp:p=(Jb.zero,a,e)) (hb:Below w.heap.size w w'):ScriptIn p w (.returned (.tuple #[.agg #[.int .i64 0,.slice none 0 0],.int .i64 a,.int .i64 e])) w':=by
 subst hp;exact⟨_,rfl,NodesIn.nil _ _,hb⟩
theorem own_frS {w w':World} {base:Nat} {e:TypeId} {size n:Nat} {v:Value} {xs:List Value} {S:Nat->Prop} (h:w.ownsRow base e size v n xs) (hf:Fr S w w') (hS: ∀k,v.ownBlock=some k-> ¬S k):w'.ownsRow base e size v n xs:=by
 obtain⟨q1,q2⟩:=h;refine⟨q1,q2.imp id ?_⟩;rintro ⟨g,cap,cur,rfl,hb,hg,r⟩;exact⟨g,cap,cur,rfl,hb,hf.heap_at hg (hS g rfl),r⟩
structure PS2 (L:List ByteArray) (w:World) (i:Nat) (j:Jb) (at_:List Int) (frst:Bool) (jav av:Value) (cs:List Value) (ivs svs:Nat->Value) (wr:World):Prop where
 below:Below w.heap.size w wr
 res:Blk wr w.heap.size 24 #[.int .i64 0,.slice none 0 0]
 jb:Blk wr (w.heap.size+1) 24 #[.int .i64 j.par,jav]
 li:Blk wr (w.heap.size+2) 9 (L.map Value.string).toArray
 nr:NRw (w.heap.size+3) (fun b=>w.heap.size+3<=b/\av.ownBlock≠some b) wr j.nodes jav cs ivs svs
 ats:wr.ownsRow (w.heap.size+3) 3 1 av at_.length (at_.map (Value.int .i64))
 len:at_.length=j.nodes.length
 le:j.nodes.length<=i
structure PLoop (L:List ByteArray) (w:World) (av fv iv:Value) (wr:World):Prop where
 ex: ∃(i:Nat) (j:Jb) (at_:List Int) (frst:Bool) (jav:Value) (cs:List Value) (ivs svs:Nat->Value),iv= .int .i64 i/\i<=L.length/\fv= .bool frst/\pGo (L.drop i) i j at_ frst=pGo L 0 Jb.zero [] true/\PS2 L w i j at_ frst jav av cs ivs svs wr
namespace PS2
variable {L:List ByteArray} {w:World} {i:Nat} {j:Jb} {at_:List Int} {frst:Bool} {jav av:Value} {cs:List Value} {ivs svs:Nat->Value} {wr wx:World}
theorem size (h:PS2 L w i j at_ frst jav av cs ivs svs wr):w.heap.size+3<=wr.heap.size:=h.li.lt
theorem keep (h:PS2 L w i j at_ frst jav av cs ivs svs wr) (hb:Below wr.heap.size wr wx):PS2 L w i j at_ frst jav av cs ivs svs wx:=
 ⟨h.below.trans (hb.mono h.below.size),h.res.below hb h.res.lt,h.jb.below hb h.jb.lt,h.li.below hb h.li.lt,h.nr.keepP hb.size (fun q hq=>hb.block q (h.nr.own.lt q hq).2) (fun b hp hl _=>⟨hp,hb.block b hl⟩),own_keep h.ats hb,h.len,h.le⟩
theorem step (h:PS2 L w i j at_ frst jav av cs ivs svs wr):PS2 L w (i+1) j at_ frst jav av cs ivs svs wr:=⟨h.below,h.res,h.jb,h.li,h.nr,h.ats,h.len,Nat.le_succ_of_le h.le⟩
end PS2
theorem line_c (j:Jb) (s:ByteArray) (frst:Bool) (jb B0:Nat) (P:Nat->Prop) (av:Value) (cs:List Value) (ivs svs:Nat->Value) (w:World) (hj:Blk w jb 24 #[.int .i64 j.par,av]) (hn:NRw B0 P w j.nodes av cs ivs svs) (hB0:jb<B0) (hB1:B0<=w.heap.size) (hP: ∀b,P b->B0<=b) (hs:s.size<=maxLen)
  (hnl:j.nodes.length<=70000):Calls prog 154 #[.pointer (some ⟨jb,0,none⟩),.string s,.bool frst] w (LinePost j s frst jb B0 P av w):=by
 cases frst
 ·exact line_node j s jb B0 P av cs ivs svs w hj hn hB0 hB1 hP hs hnl
 ·exact line_first j s jb B0 P av cs ivs svs w hj hn hB0 hP hs
theorem PS2.line {L:List ByteArray} {w:World} {i:Nat} {j j2:Jb} {at_:List Int} {frst:Bool} {jav jav2 av:Value} {cs cs2:List Value} {ivs svs ivs2 svs2:Nat->Value} {wr wx:World} (h:PS2 L w i j at_ frst jav av cs ivs svs wr)
  (hf:Fr (fun k=>k=w.heap.size+1\/jav.ownBlock=some k) wr wx) (hj:Blk wx (w.heap.size+1) 24 #[.int .i64 j2.par,jav2]) (hn:NRw (w.heap.size+3) (fun b=>(w.heap.size+3<=b/\av.ownBlock≠some b)\/wr.heap.size<=b) wx j2.nodes jav2 cs2 ivs2 svs2):
  Below w.heap.size w wx/\Blk wx w.heap.size 24 #[.int .i64 0,.slice none 0 0]/\Blk wx (w.heap.size+2) 9 (L.map Value.string).toArray/\wx.ownsRow (w.heap.size+3) 3 1 av at_.length (at_.map (Value.int .i64))/\
   NRw (w.heap.size+3) (fun b=>w.heap.size+3<=b/\av.ownBlock≠some b) wx j2.nodes jav2 cs2 ivs2 svs2:=by
 have hge:=fun q hq=>(h.nr.own.lt q hq).1;have hsz:=h.size;have hna: ∀k,k<w.heap.size+3->k≠w.heap.size+1-> ¬(k=w.heap.size+1\/jav.ownBlock=some k):=fun k hk hne e=>by
  rcases e with e|e
  ·exact hne e
  ·have:=hge k e;omega
 have hap:=owns_apart h.nr.own h.ats (by decide);refine⟨h.below.trans (hf.below h.below.size (fun k hk=>hna k (by omega) (by omega))),h.res.fr hf (hna _ (by omega) (by omega)),h.li.fr hf (hna _ (by omega) (by omega)),own_frS h.ats hf (fun k hk e=>?_),hn.keepP le0 (fun _ _=>rfl) (fun b hb _ _=>⟨?_,rfl⟩)⟩
 ·rcases e with e|e
  ·have:=(h.ats.lt k hk).1;omega
  ·rcases hap with hap|hap
   ·rw[hap]at hk;cases hk
   ·exact hap (by rw[hk,e])
 ·rcases hb with hb|hb
  ·exact hb
  ·refine⟨by omega,fun e=>?_⟩;have:=(h.ats.lt b e).2;omega
theorem ps2_app {L:List ByteArray} {w w2 w3:World} {i:Nat} {j2:Jb} {at_:List Int} {z:Int} {o:Obj} {jav2 av:Value} {cs2:List Value} {ivs2 svs2:Nat->Value} {g capg:Nat} (g1:Below w.heap.size w w2) (hr:Blk w2 w.heap.size 24 #[.int .i64 0,.slice none 0 0]) (hj:Blk w2 (w.heap.size+1) 24 #[.int .i64 j2.par,jav2])
  (hl:Blk w2 (w.heap.size+2) 9 (L.map Value.string).toArray) (ha:w2.ownsRow (w.heap.size+3) 3 1 av at_.length (at_.map (Value.int .i64))) (hn:NRw (w.heap.size+3) (fun b=>w.heap.size+3<=b/\av.ownBlock≠some b) w2 j2.nodes jav2 cs2 ivs2 svs2)
  (hg:(w2.alloc o).grownBy w3 av.ownBlock) (hat:av.ownBlock=some g\/g=(w2.alloc o).heap.size) (hown:w3.ownsRow (w.heap.size+3) 3 1 (.slice (some ⟨g,0,none⟩) (at_.length+1) capg) (at_.length+1) (at_.map (Value.int .i64)++ [.int .i64 z])) (hlen:at_.length+1=j2.nodes.length) (hle:j2.nodes.length<=i+1):
  PS2 L w (i+1) j2 (at_++ [z]) false jav2 (.slice (some ⟨g,0,none⟩) (at_.length+1) capg) cs2 ivs2 svs2 w3:=by
 have hsz:(w2.alloc o).heap.size=w2.heap.size+1:=by simp
 have hgs:=hg.size;have hge:=fun q hq=>ha.lt q hq;have hk: ∀b,b<w2.heap.size->av.ownBlock≠some b->w3.heap[b]? =w2.heap[b]? :=fun b hb hne=>(hg.block b (by omega) (fun e=>hne e.symm)).trans (alloc_old w2 o b hb);have hlo: ∀b,b<w.heap.size+3->av.ownBlock≠some b:=fun b hb e=>by have:=(hge b e).1;omega
 have hap:=owns_apart hn.own ha (by decide);have hsz2:=hl.lt;refine⟨(g1.alloc g1.size o).grown hg (by have:=g1.size;omega) (fun k hk=>by have:=(hge k hk).1;omega),(hk _ (by omega) (hlo _ (by omega))).trans hr,(hk _ (by omega) (hlo _ (by omega))).trans hj,(hk _ (by omega) (hlo _ (by omega))).trans hl,?_,?_,by rw[la0];exact hlen,hle⟩
 ·refine hn.keepP (by omega) (fun q hq=>hk q (hn.own.lt q hq).2 (fun e=>?_)) (fun b hb hbl _=>⟨⟨hb.1,fun e=>?_⟩,hk b hbl hb.2⟩)
  ·rcases hap with hap|hap
   ·rw[hap]at e;cases e
   ·exact hap (by rw[e,hq])
  ·simp only[Value.ownBlock,Option.some.injEq]at e;subst e;rcases hat with hat|hat
   ·exact hb.2 hat
   ·omega
 ·rw[la0,List.map_append];exact hown
theorem sParseIn_c (s:ByteArray) (m:Int) (w:World) (hs:s.size<=140737488351232) (h0:0<w.heap.size) (hml:w.cell? ⟨0,0,none⟩=some (.int .i64 m)):Calls prog 124 #[.string s] w (ScriptIn (pScript s) w):=by
 have hk0:=((KB.start w).push #[.int .i64 0,.slice none 0 0] 24);by_cases hbig:65536<s.size
 ·have hbi:(65536:Int)<(s.size:Int):=by omega
  have HP:Hd (pScript s=(Jb.zero,0,3)):=by unfold Hd pScript;rw[if_pos hbig]
  have hR:=hk0.hd;have r0:=hR.cell 0;have r1:=hR.cell 1;have q0:=hR.free 0;have q1:=hR.free 1;have HR:=Lh hR;clear hR hk0;go_enter func124,ntmps124
  go_wp2_with fail
  refine bodyPost_ret (v:= .tuple #[.agg #[_,_],_,_]) (results_cell_row3 rfl _ _ w.heap.size 24 _ (0,0) _ rfl HR.o underlying24 rfl ?_ (.int .i64 0) (.int .i64 3) rfl rfl) rfl (scriptIn_zero HP.o (br0.alloc le0 _))
  kernel_rfl
 ·have hbi: ¬(65536:Int)<(s.size:Int):=by omega
  have HP:Hd (pScript s=pRes (pGo (linesB s) 0 Jb.zero [] true)):=by unfold Hd pScript;rw[if_neg hbig]
  have hb1:=((Below.refl w.heap.size w).alloc le0 (.cells #[.int .i64 0,.slice none 0 0] 24)).alloc (by simp) (.cells #[.int .i64 0,.slice none 0 0] 24);have hml1:((w.alloc (.cells #[.int .i64 0,.slice none 0 0] 24)).alloc (.cells #[.int .i64 0,.slice none 0 0] 24)).cell? ⟨0,0,none⟩=some (.int .i64 m):=(hb1.cell (p:=⟨0,0,none⟩) h0).trans hml;have hz1:((w.alloc (.cells #[.int .i64 0,.slice none 0 0] 24)).alloc (.cells #[.int .i64 0,.slice none 0 0] 24)).heap.size=w.heap.size+2:=by simp
  have hll:=lines_len s;have hle:=lines_le s;have hls:=lines_size s;have HSP:Hd (Calls prog 152 #[.string s,.string {data:=#[10]}] ((w.alloc (.cells #[.int .i64 0,.slice none 0 0] 24)).alloc (.cells #[.int .i64 0,.slice none 0 0] 24)) fun e w'=>
   e= .returned (.slice (some ⟨w.heap.size+2,0,none⟩) (linesB s).length (linesB s).length)/\w'=((w.alloc (.cells #[.int .i64 0,.slice none 0 0] 24)).alloc (.cells #[.int .i64 0,.slice none 0 0] 24)).alloc (.cells ((linesB s).map Value.string).toArray 9)):=by
   have h:=strings_Split s nlB m _ (by omega) hml1 (by decide);rw[hz1,<-hll]at h;exact h
  have hps:PS2 (linesB s) w 0 Jb.zero [] true (.slice none 0 0) (.slice none 0 0) [] (fun _=>undef) (fun _=>undef) (((w.alloc (.cells #[.int .i64 0,.slice none 0 0] 24)).alloc (.cells #[.int .i64 0,.slice none 0 0] 24)).alloc (.cells ((linesB s).map Value.string).toArray 9)):=
   ⟨hb1.alloc (by rw[hz1];omega) _,((Blk.new w _ _).alloc _).alloc _,(Blk.new_at _ _ _ (by simp)).alloc _,Blk.new_at _ _ _ hz1.symm,NRw.nil _ _ _ _ _,World.ownsRow_nil _ _ _ _,rfl,le0⟩
  have HPS:=Lh hps;clear hps hk0;generalize linesB s=L at*;generalize pScript s=ps at*;obtain⟨i0,hi,hz0i,hz1i,hz2i⟩:=info_parts info_intJ;have HLS:=Lh hls;have hN: ∃N,L.length=N:=⟨_,rfl⟩;obtain⟨N,hN⟩:=hN;have HN:=Lh hN;have hNs:N<=65537:=by omega
  rw[hN]at HSP;clear hls hll hle hN hml1 hz1 hb1;go_enter func124,ntmps124
  go_upto_region 7 with (go_at_call 152;refine HSP.o.mono ?_;rintro e w1 ⟨rfl,rfl⟩)
  generalize World.alloc _ _=W at*;clear HSP
  go_loopw [6,7,20] (fun av fv iv wr=>PLoop L w av fv iv wr) (fun _ _ i _=>N-(intOf i).toNat)
  case atStart=>exact⟨0,Jb.zero,[],true,_,_,_,_,rfl,ze0,rfl,rfl,HPS.o⟩
  case round=>
   obtain⟨i,j,at_,frst,jav,cs,ivs,svs,rfl,hiN,rfl,hgo,hps⟩:=hrel.ex;clear hrel;rw[HN.o]at hiN;have HGO:=Lh hgo;have HPR:=Lh hps;have hj0:=hps.jb.cell 0;have hsz:=hps.size;clear hgo hps;by_cases hlt:i<N
   ·have hil:i<L.length:=by rw[HN.o];exact hlt
    have HT:Hd (L.drop i=L[i]::L.drop (i+1)):=List.drop_eq_getElem_cons hil;have hts:(L[i]).size<=65536:=le1 (HLS.o _ (List.getElem_mem _)) (by omega);have c0:wr.cell? ⟨w.heap.size+2,i,none⟩=some (.string L[i]):=by
     rw[HPR.o.li.cell i];simp[hil]
    generalize L[i]=t at*;have hts2:t.size<=maxLen:=by unfold maxLen;omega
    have HSI:=Lh (ssilent_c t wr hts2)
    go_wp2_with fail
    refine HSI.o.mono ?_;rintro e w1 ⟨rfl,hb1⟩;have HP1:=Lh (HPR.o.keep hb1);clear hj0 c0 HSI HPR hb1;generalize hsil:silentB t=sil at*;have HSIL:=Lh hsil;clear hsil
    cases sil
    ·have hjn:j.nodes.length<=70000:=by have:=HP1.o.le;omega
     have HLC:=Lh (line_c j t frst (w.heap.size+1) (w.heap.size+3) (fun b=>w.heap.size+3<=b/\u6.ownBlock≠some b) jav cs ivs svs w1 HP1.o.jb HP1.o.nr (by omega) HP1.o.size (fun b hb=>hb.1) hts2 hjn);unfold LinePost at HLC;have HPF:=Lh (pl_first j t);have HPM:=Lh (pl_more j t);have HG2:Hd (pGo (L.drop i) i j at_ frst=if(pLine j t frst).2≠0 then .error (((i+1:Nat):Int),(pLine j t frst).2)else pGo (L.drop (i+1)) (i+1) (pLine j t frst).1 (bif frst then at_ else at_++ [((i+1:Nat):Int)]) false):=by
      unfold Hd;rw[HT.o,pGo,HSIL.o];rfl
     go_wp2_with fail
     refine HLC.o.mono ?_;rintro e w2 ⟨rfl,hfr,jav2,cs2,ivs2,svs2,hj2,hn2⟩;obtain⟨g1,g2,g3,g4,g5⟩:=HP1.o.line hfr hj2 hn2;have HJ2:=Lh hj2;have HR2:=Lh g2;have HL2:=Lh g3;have HA2:=Lh g4;have HN2:=Lh g5;clear g2 g3 g4 g5 hj2 hn2 HLC hfr;generalize hpl:pLine j t frst=q at*;obtain⟨j2,le⟩:=q;have HPL:=Lh hpl;clear hpl;dsimp only at HG2;by_cases hle:le=0
     ·subst hle;rw[if_neg (fun h=>h rfl)]at HG2
      cases frst
      ·have hal:at_.length<=65537:=by rw[HP1.o.len];have:=HP1.o.le;omega
       have hAge: ∀z,u6.ownBlock=some z->w.heap.size+3<=z/\z<w2.heap.size:=HA2.o.lt;have HAG:=Lh hAge;have hsz2:w.heap.size+3<=w2.heap.size:=HL2.o.lt;have hii:(i:Int)+1<=65537:=by omega
       clear hAge
       go_wp2_with (at_builtin;refine wpList_append_lies _ rfl _ _ _ rfl (w.heap.size+3) 3 i0 (.int .i64 0) 1 8 underlying130 hi hz0i hz1i hz2i rfl (by decide) u6 at_.length (at_.map (Value.int .i64)) rfl (HA2.o.alloc _) ⟨w2.heap.size,0,none⟩ 1 1 [.int .i64 ((i:Int)+1)] rfl rfl (cell_one_newJ _ _ _) (by simp[Value.oneCell']) (by decide) (by unfold maxLen;omega) (by omega) (by simp;omega) _ rfl ?_;intro g capg w3 hown3 hg3 hat3 hlt3)
       go_roundw
       case rel=>exact⟨i+1,j2,at_++ [(i:Int)+1],false,jav2,cs2,ivs2,svs2,by go_num,by rw[HN.o];omega,rfl,by rw[<-HGO.o,HG2.o];rfl,ps2_app g1 HR2.o HJ2.o HL2.o HA2.o HN2.o hg3 hat3 hown3 (by have:=HPM.o;rw[HPL.o]at this;rw[this rfl,HP1.o.len]) (by have:=HPM.o;rw[HPL.o]at this;rw[this rfl];have:=HP1.o.le;omega)⟩
       case measure=>simp[intOf];omega
      ·go_wp2_with fail
       go_roundw
       case rel=>exact⟨i+1,j2,at_,false,jav2,cs2,ivs2,svs2,by go_num,by rw[HN.o];omega,rfl,by rw[<-HGO.o,HG2.o];rfl,⟨g1,HR2.o,HJ2.o,HL2.o,HN2.o,HA2.o,by rw[HP1.o.len,<-HPF.o,HPL.o],by have:=HPF.o;rw[HPL.o]at this;dsimp only at this;rw[this];have:=HP1.o.le;omega⟩⟩
       case measure=>simp[intOf];omega
     ·have hleb:(le !=0)=true:=by rw[bne_iff_ne];exact hle
      rw[if_pos hle]at HG2;have hii:(i:Int)+1<=65537:=by omega
      have r0:=HR2.o.cell 0;have r1:=HR2.o.cell 1;have q0:=HR2.o.free 0;have q1:=HR2.o.free 1
      go_wp2_with fail
      have hpz:ps=(Jb.zero,(i:Int)+1,le):=by rw[HP.o,<-HGO.o,HG2.o];rfl
      refine bodyPost_ret (v:= .tuple #[.agg #[_,_],_,_]) (results_cell_row3 rfl _ _ w.heap.size 24 _ (0,0) _ rfl ((HR2.o.set 0 (.int .i64 0)).set 1 (.slice none 0 0)) underlying24 rfl ?_ (.int .i64 ((i:Int)+1)) (.int .i64 le) rfl rfl) rfl
       (scriptIn_zero hpz ((g1.setCell (p:=⟨w.heap.size,0,none⟩) le0 _).setCell (p:=⟨w.heap.size,1,none⟩) le0 _))
      kernel_rfl
    ·go_wp2_with fail
     go_roundw
     case rel=>exact⟨i+1,j,at_,frst,jav,cs,ivs,svs,by go_num,by rw[HN.o];omega,rfl,by rw[<-HGO.o,HT.o,pGo,HSIL.o];rfl,HP1.o.step⟩
     case measure=>simp[intOf];omega
   ·obtain rfl:i=N:=by omega
    have HPE:Hd (ps=pEnd j at_ frst):=by
     unfold Hd;rw[HP.o,<-HGO.o,List.drop_eq_nil_of_le (by rw[HN.o];exact le0)];rfl
    have r0:=HPR.o.res.cell 0;have r1:=HPR.o.res.cell 1;have q0:=HPR.o.res.free 0;have q1:=HPR.o.res.free 1
    cases frst
    ·clear r0 r1 q0 q1;have hj1:=HPR.o.jb.cell 1;have hnd:=HPR.o.nr.nodes le0;have HMY:=Lh (May_c1 j (.agg #[.int .i64 j.par,jav]) wr.heap.size wr ⟨jav,rfl,hnd⟩ le0);have HMA:=Lh (may_at j);obtain⟨aa,ac,hav,_,_⟩:=hnd.slice;subst hav;have HPE2:Hd (ps=if j.may.2=2 then(Jb.zero,0,2)else if j.may.2≠0 then(Jb.zero,at_.getD j.may.1.toNat 0,j.may.2)else(j,0,0)):=HPE.o;clear hnd HPE;generalize j.may=mm at*;obtain⟨mi,me⟩:=mm;dsimp only at HPE2 HMA
     go_wp2_with fail
     refine HMY.o.mono ?_;rintro e w1 ⟨rfl,hb1⟩;have HP1:=Lh (HPR.o.keep hb1);clear hj0 hj1 HMY HPR;have r0:=HP1.o.res.cell 0;have r1:=HP1.o.res.cell 1;have q0:=HP1.o.res.free 0;have q1:=HP1.o.res.free 1;by_cases h2:me=2
     ·subst h2;rw[if_pos rfl]at HPE2
      go_wp2_with fail
      refine bodyPost_ret (v:= .tuple #[.agg #[_,_],_,_]) (results_cell_row3 rfl _ _ w.heap.size 24 _ (0,0) _ rfl ((HP1.o.res.set 0 (.int .i64 0)).set 1 (.slice none 0 0)) underlying24 rfl ?_ (.int .i64 0) (.int .i64 2) rfl rfl) rfl
       (scriptIn_zero HPE2.o ((HP1.o.below.setCell (p:=⟨w.heap.size,0,none⟩) le0 _).setCell (p:=⟨w.heap.size,1,none⟩) le0 _))
      kernel_rfl
     ·have h2b:(me==2)=false:=by rw[bq0];exact h2
      rw[if_neg h2]at HPE2;by_cases h0:me=0
      ·subst h0;rw[if_neg (fun h=>h rfl)]at HPE2;have e0:=HP1.o.jb.cell 0;have e1:=HP1.o.jb.cell 1;clear h2 h2b
       go_wp2_with fail
       refine bodyPost_ret (v:= .tuple #[.agg #[_,_],_,_]) (results_cell_row3 rfl _ _ w.heap.size 24 _ (0,0) _ rfl ((HP1.o.res.set 0 (.int .i64 j.par)).set 1 (.slice aa j.nodes.length ac)) underlying24 rfl ?_ (.int .i64 0) (.int .i64 0) rfl rfl) rfl ?_
       ·kernel_rfl
       ·rw[HPE2.o];have hn9:=(HP1.o.nr.keepP (P':=fun b=>w.heap.size+3<=b) (wy:=(w1.setCell ⟨w.heap.size,0,none⟩ (.int .i64 j.par)).setCell ⟨w.heap.size,1,none⟩ (.slice aa j.nodes.length ac)) (Nat.le_of_eq (by simp)) (fun q hq=>?_) (fun b hb _ _=>⟨hb.1,?_⟩)).nodesIn
         (Q:=fun b=>w.heap.size<=b/\b<((w1.setCell ⟨w.heap.size,0,none⟩ (.int .i64 j.par)).setCell ⟨w.heap.size,1,none⟩ (.slice aa j.nodes.length ac)).heap.size) (fun b hb hl=>⟨le1 (Nat.le_add_right _ 3) hb,hl⟩) (fun b hb=>by have:=HP1.o.nr.own.lt b hb;refine⟨by omega,?_⟩;have:=this.2;simpa using this)
        ·exact⟨_,rfl,hn9,(HP1.o.below.setCell (p:=⟨w.heap.size,0,none⟩) le0 _).setCell (p:=⟨w.heap.size,1,none⟩) le0 _⟩
        ·have:=(HP1.o.nr.own.lt q hq).1;exact(heap_setCell_other _ ⟨w.heap.size,1,none⟩ q _ (by show q≠w.heap.size;omega)).trans (heap_setCell_other _ ⟨w.heap.size,0,none⟩ q _ (by show q≠w.heap.size;omega))
        ·have:=hb.1;exact(heap_setCell_other _ ⟨w.heap.size,1,none⟩ b _ (by show b≠w.heap.size;omega)).trans (heap_setCell_other _ ⟨w.heap.size,0,none⟩ b _ (by show b≠w.heap.size;omega))
      ·have h0b:(me !=0)=true:=by rw[bne_iff_ne];exact h0
       rw[if_pos h0]at HPE2;obtain⟨m0,m1⟩:=HMA.o h0 h2;rw[<-HP1.o.len]at m1;obtain⟨mn,rfl⟩: ∃k:Nat,mi=(k:Int):=⟨mi.toNat,by omega⟩;rw[Int.toNat_natCast]at HPE2;have hmn:mn<at_.length:=by omega
       obtain⟨b5,o5,k5,e5,hl5,hz5,c5⟩:=(Sl.of_owns HP1.o.ats).int mn hmn;have hgd:at_.getD mn 0=at_[mn]:=by rw[List.getD_eq_getElem?_getD,List.getElem?_eq_getElem hz5,Option.getD_some]
       rw[hgd]at HPE2;generalize at_[mn]=z at*;subst e5;have hb5:w.heap.size+3<=b5:=(HP1.o.ats.lt b5 rfl).1;have hn5: ¬b5=w.heap.size:=by omega
       have hn6: ¬w.heap.size=b5:=by omega
       have HRS:=Lh HP1.o.res;have HBW:=Lh HP1.o.below;have hmnI:(mn:Int)<(at_.length:Int):=by omega
       clear HP1 hgd hz5 HMA HGO HPS
       go_upto_region 23 with fail
       go_region
       all_goals
        go_wp2_with fail
        refine bodyPost_ret (v:= .tuple #[.agg #[_,_],_,_]) (results_cell_row3 rfl _ _ w.heap.size 24 _ (0,0) _ rfl ((HRS.o.set 0 (.int .i64 0)).set 1 (.slice none 0 0)).drew underlying24 rfl ?_ (.int .i64 z) (.int .i64 me) rfl rfl) rfl
         (scriptIn_zero HPE2.o ((HBW.o.setCell (p:=⟨w.heap.size,0,none⟩) le0 _).setCell (p:=⟨w.heap.size,1,none⟩) le0 _).drew)
        kernel_rfl
    ·go_wp2_with fail
     refine bodyPost_ret (v:= .tuple #[.agg #[_,_],_,_]) (results_cell_row3 rfl _ _ w.heap.size 24 _ (0,0) _ rfl ((HPR.o.res.set 0 (.int .i64 0)).set 1 (.slice none 0 0)) underlying24 rfl ?_ (.int .i64 0) (.int .i64 130) rfl rfl) rfl
      (scriptIn_zero HPE.o ((HPR.o.below.setCell (p:=⟨w.heap.size,0,none⟩) le0 _).setCell (p:=⟨w.heap.size,1,none⟩) le0 _))
     kernel_rfl
structure Env (w:World):Prop where
 h0:0<w.heap.size
 ml: ∃m,w.cell? ⟨0,0,none⟩=some (.int .i64 m)
theorem Env.keep {w w':World} (h:Env w) (hb:Below w.heap.size w w'):Env w':=
 ⟨lt1 h.h0 hb.size,let ⟨m,hm⟩:=h.ml;⟨m,(hb.cell (p:=⟨0,0,none⟩) h.h0).trans hm⟩⟩
theorem sumsParse_c (w:World) (h:Env w):Calls prog 124 #[.string sumsB] w fun e w'=>
  ∃a c,e= .returned (.tuple #[.agg #[.int .i64 2,.slice a 3 c],.int .i64 0,.int .i64 0])/\NodesIn w' (fun b=>w.heap.size<=b/\b<w'.heap.size) sumsJ.nodes (.slice a 3 c)/\Below w.heap.size w w':=by
 obtain⟨m,hm⟩:=h.ml;have:=sParseIn_c sumsB m w (by decide) h.h0 hm;rw[sums_parse]at this;refine this.mono ?_;rintro e w' ⟨sv,rfl,hn,hb⟩;obtain⟨a,c,rfl,_,_⟩:=hn.slice;exact⟨a,c,rfl,hn,hb⟩
theorem made_c (w:World) (h:Env w):Calls prog 70 #[.string sumsB] w fun e w'=>
  ∃a c,e= .returned (.agg #[.int .i64 2,.slice a 3 c])/\NodesIn w' (fun b=>w.heap.size<=b/\b<w'.heap.size) sumsJ.nodes (.slice a 3 c)/\Below w.heap.size w w':=by
 have hA:=(Below.refl w.heap.size w).alloc le0 (.cells #[.int .i64 0,.slice none 0 0] 24);have hr:=Blk.new w #[.int .i64 0,.slice none 0 0] 24;have HP:=Lh (sumsParse_c _ (h.keep hA));clear h;go_enter func70,ntmps70
 go_upto_region 1 with fail
 have hz:(w.alloc (.cells #[.int .i64 0,.slice none 0 0] 24)).heap.size=w.heap.size+1:=by simp
 generalize World.alloc w _=W at*
 go_upto_region 2 with (first|(go_at_call 124;refine HP.o.mono ?_;rintro e w2 ⟨a,c,rfl,hn,hb⟩)|fail)
 have hr2:=(hr.below hb hr.lt).alloc (.cells #[.int .i64 2,.slice a 3 c] 24);have hx2:=Blk.new w2 #[.int .i64 2,.slice a 3 c] 24;have hB2:=(hA.trans (hb.mono hA.size)).alloc (le1 hA.size hb.size) (.cells #[.int .i64 2,.slice a 3 c] 24);have hN2:=hn.keep (Q:=fun b=>w.heap.size<b/\b<(w2.alloc (.cells #[.int .i64 2,.slice a 3 c] 24)).heap.size) (fun b k=>⟨by omega,by simp;omega⟩) (fun b k=>alloc_old w2 (.cells #[.int .i64 2,.slice a 3 c] 24) b k.2);generalize World.alloc w2 _=W3 at*;have x0:=hx2.cell 0;have x1:=hx2.cell 1;have r0:=hr2.cell 0;have r1:=hr2.cell 1;have q0:=hr2.free 0;have q1:=hr2.free 1;have HR:=Lh ((hr2.set 0 (.int .i64 2)).set 1 (.slice a 3 c));clear hr hr2 hx2 hA hb HP hn
 go_wp2_with fail
 refine bodyPost_ret (v:= .agg #[.int .i64 2,.slice a 3 c]) (results_cell_row rfl _ _ w.heap.size 24 _ (0,0) _ rfl HR.o underlying24 rfl ?_) rfl ⟨a,c,rfl,?_,?_⟩
 ·kernel_rfl
 ·exact hN2.keep (fun b k=>⟨by omega,by simpa using k.2⟩) (fun b k=>(heap_setCell_other _ ⟨w.heap.size,1,none⟩ b _ (by show b≠w.heap.size;omega)).trans (heap_setCell_other _ ⟨w.heap.size,0,none⟩ b _ (by show b≠w.heap.size;omega)))
 ·exact(hB2.setCell (p:=⟨w.heap.size,0,none⟩) le0 _).setCell (p:=⟨w.heap.size,1,none⟩) le0 _
