/- Parts. -/
import Derived.Test.YtokgmjefideioaaGreatDoorVY29
namespace Go.Proofs.YtokgmjefideioaaGreatDoor
open Go.RowKit
set_option linter.unusedVariables false
set_option linter.unusedSimpArgs false
set_option maxRecDepth 100000
set_option maxHeartbeats 16000000
open Tryz
theorem rAppend_c (w:World) (M:Nat->Prop) (D:Nat) (d:Dk) (h:RDk w M D d) (f:Int) (s:ByteArray) (hs:s.size<=9223372036854775807) (hll:d.loose.length<=1000000000):
  Calls prog 32 #[px D,.int .i64 f,.string s] w fun e w'=>e= .returned (.int .i64 (d.append f s).2)/\RDkTo w w' M D (d.append f s).1:=by
 have HC:=Lh (rChange_c w M D d h 1 f 0 s hs hll _ (.inl ⟨rfl,rfl,rfl⟩));unfold px at HC⊢;go_enter func32,ntmps32
 go_wp2_with (go_at_call 67;refine HC.o.mono ?_;rintro e w1 ⟨rfl,h1⟩)
 go_ret;exact⟨rfl,h1⟩
theorem rCut_c (w:World) (M:Nat->Prop) (D:Nat) (d:Dk) (h:RDk w M D d) (f n:Int) (hll:d.loose.length<=1000000000):
  Calls prog 34 #[px D,.int .i64 f,.int .i64 n] w fun e w'=>e= .returned (.int .i64 (d.cut f n).2)/\RDkTo w w' M D (d.cut f n).1:=by
 have HC:=Lh (rChange_c w M D d h 2 f n {data:=#[]} ze0 hll _ (.inr (.inl ⟨rfl,rfl,rfl⟩)));unfold px at HC⊢;go_enter func34,ntmps34
 go_wp2_with (go_at_call 67;refine HC.o.mono ?_;rintro e w1 ⟨rfl,h1⟩)
 go_ret;exact⟨rfl,h1⟩
theorem rMove_c (w:World) (M:Nat->Prop) (D:Nat) (d:Dk) (h:RDk w M D d) (f n:Int) (hll:d.loose.length<=1000000000):
  Calls prog 36 #[px D,.int .i64 f,.int .i64 n] w fun e w'=>e= .returned (.int .i64 (d.move f n).2)/\RDkTo w w' M D (d.move f n).1:=by
 have HC:=Lh (rChange_c w M D d h 3 f n {data:=#[]} ze0 hll _ (.inr (.inr ⟨rfl,rfl,rfl⟩)));unfold px at HC⊢;go_enter func36,ntmps36
 go_wp2_with (go_at_call 67;refine HC.o.mono ?_;rintro e w1 ⟨rfl,h1⟩)
 go_ret;exact⟨rfl,h1⟩
structure CrQ (w:World) (D:Nat) (d:Dk) (lv:Value) (k:Nat) (wr:World):Prop where
 blk:Blk wr D 54 (dkC {d with sure:=gone (d.loose.take k) d.sure} lv)
 fr:Fr (· =D) w wr
theorem chL_form (c:Chg): ∃k a n s,chL c=[.int .i64 k,.int .i64 a,.int .i64 n,.string s]/\((k==1)=true/\(∃f,c= .app f s)\/(k==1)=false/\ ∀m l,c.part m l=l)/\(∀f s',c= .app f s'->s'=s):=by
 cases c with
 |app f s=>exact⟨1,f,0,s,rfl,.inl ⟨rfl,f,rfl⟩,fun _ _ e=>by cases e;rfl⟩
 |cut f n=>exact⟨2,f,n,_,rfl,.inr ⟨rfl,fun _ _=>rfl⟩,fun _ _ e=>by cases e⟩
 |mv a b=>exact⟨3,a,b,_,rfl,.inr ⟨rfl,fun _ _=>rfl⟩,fun _ _ e=>by cases e⟩
structure ARow (w:World) (g o:Nat) (ck ca cn:Int) (s:ByteArray):Prop where
 c0:w.cell? ⟨g,o,none⟩=some (.int .i64 ck)
 c1:w.cell? ⟨g,o+1,none⟩=some (.int .i64 ca)
 c2:w.cell? ⟨g,o+2,none⟩=some (.int .i64 cn)
 c3:w.cell? ⟨g,o+3,none⟩=some (.string s)
structure CrS (w:World) (D g o:Nat) (lv:Value) (ck ca cn:Int) (s:ByteArray):Prop where
 sl:w.cell? ⟨D,33,none⟩=some lv
 row:ARow w g o ck ca cn s
theorem rCrash_c (w:World) (M:Nat->Prop) (D:Nat) (d:Dk) (h:RDk w M D d) (changes bytes:Int) (hll:d.loose.length<=1000000000):
  Calls prog 19 #[px D,.int .i64 changes,.int .i64 bytes] w fun e w'=>e= .returned (.tuple #[])/\RDkTo w w' M D (d.crash changes bytes):=by
 obtain⟨lv,hb,hL⟩:=id h.ex;have hld:=h.inv.len;have HH:=Lh h;have HB:=Lh hb;have HRN:=Lh h.inv.runs;have HRM:=Lh h.inv.room2;have HLD:=Lh hld;have HCE:Hd (d.crash changes bytes=⟨d.room,d.kept changes bytes,d.kept changes bytes,[],false,-1⟩):=rfl;have HI:=Lh (h.inv.crash changes bytes);have HKE:Hd (d.kept changes bytes=match d.loose.drop (clip changes d.loose.length)with
  | []=>gone (d.loose.take (clip changes d.loose.length)) d.sure
  |c::_=>c.part bytes (gone (d.loose.take (clip changes d.loose.length)) d.sure)):=rfl
 have HGL:Hd (∀k,(gone (d.loose.take k) d.sure).length=16):=fun k=>(gone_len _ _).trans hld.s;have HKL:Hd ((d.kept changes bytes).length=16):=Dk.kept_len h.inv changes bytes;obtain⟨la,lc,rfl,hlc,hlm⟩:=RDk.slice (hL.keep (fun b q=>q.1) (fun _ _=>rfl));have HROW:Hd (d.loose.length=0\/ ∃g off,la=some ⟨g,off,none⟩/\g≠D/\g<w.heap.size/\ ∀j,j<d.loose.length*4->w.cell? ⟨g,off+j,none⟩=(chsL d.loose)[j]?):=by
  obtain⟨_,a,cap,hv,_,_,h4⟩:=hL;simp only[vs0,true_and]at hv;obtain⟨rfl,rfl⟩:=hv;exact h4.imp id fun⟨g,off,e,hg,hc⟩=>⟨g,off,e,hg.2,h.lt g hg.1,hc⟩
 have hcl:(clip changes d.loose.length:Int)=max (min changes d.loose.length) 0:=by unfold clip;omega
 have hcl2:=clip_le changes d.loose.length;have HMK:Hd (∀k c (hc:d.loose[k]? =some c) (m:Int) (W:World),Calls prog 52 #[.agg ((gone (d.loose.take k) d.sure).map Value.string).toArray,.agg (chL c).toArray,.int .i64 m] W fun e w'=>e= .returned (.agg ((c.mk m (gone (d.loose.take k) d.sure)).map Value.string).toArray)/\Below W.heap.size W w'):=fun k c hc m W=>by
  obtain⟨hk,rfl⟩:=List.getElem?_eq_some_iff.1 hc;obtain⟨o1,o2,o3⟩:=HRN.o.at k hk;have hr:=HRM.o;refine rmade_c _ (HGL.o k) (fun f=>?_) _ o1 (fun f s e=>?_) m W
  ·have:=sum_le (gone (d.loose.take k) d.sure) f;omega
  ·rw[e]at o1 o3;have:=app_fitS (s:=s) (HGL.o k) (show f<16 from o1) (by omega);omega
 clear hb hL h hld;generalize hll2:d.loose.length=len at*;have HLEN:=Lh hll2;clear hll2;generalize hn:clip changes len=n at*;have HN:=Lh hn;clear hn;unfold px;go_enter func19,ntmps19
 go_wp2_with fail
 go_loopw [6] (fun q wr=> ∃k:Nat,q= .int .i64 (k:Int)/\k<=n/\CrQ w D d (.slice la len lc) k wr) (fun q _=>n-(intOf q).toNat)
 case atStart=>exact⟨0,rfl,ze0,⟨by rw[List.take_zero];exact HB.o,Fr.refl _ _⟩⟩
 case round=>
  obtain⟨k,rfl,hk,hR⟩:=hrel;have hlenk:Dk.Len {d with sure:=gone (d.loose.take k) d.sure}:=⟨HLD.o.n,HGL.o k⟩;have c33:=(hR.blk.cell 33).trans (dkC_33 hlenk);have hDl:=hR.blk.lt;by_cases hlt:k<n
  ·have e1:decide ((k:Int)<(len:Int))=true:=dt0 (by omega);have e2:decide ((k:Int)<changes)=true:=dt0 (by omega);obtain⟨g,off,rfl,hgD,hgw,hgc⟩: ∃g off,la=some ⟨g,off,none⟩/\g≠D/\g<w.heap.size/\ ∀j,j<len*4->w.cell? ⟨g,off+j,none⟩=(chsL d.loose)[j]? :=by
    rcases HROW.o with h0|h0
    ·omega
    ·exact h0
   have hkl:k<d.loose.length:=by rw[HLEN.o];omega
   have HGT:=Lh (gone_take d.loose d.sure k hkl);obtain⟨ck,ca,cn,s,hch,_,hsz⟩:=chL_form d.loose[k];have hal:=mk_all d.loose[k] (gone (d.loose.take k) d.sure) (s.size:Int) (fun f s' e=>by rw[hsz f s' e]);have hL16:(d.loose[k].does (gone (d.loose.take k) d.sure)).length=16:=(Chg.does_len _ _).trans (HGL.o k);have HMD:=Lh (fun W=>HMK.o k _ (List.getElem?_eq_getElem hkl) (s.size:Int) W);rw[hal,hch]at HMD;have hat:=fun j (hj:j<4)=>(hgc (k*4+j) (by omega)).trans ((chsL_at d.loose k hkl j hj).trans (by rw[hch]));generalize d.loose[k].does (gone (d.loose.take k) d.sure)=L at*;have x0:=hat 0 (by omega);have x1:=hat 1 (by omega);have x2:=hat 2 (by omega);have x3:=hat 3 (by omega);simp only[<-Nat.add_assoc,Nat.add_zero,List.getElem?_cons_zero,List.getElem?_cons_succ]at x0 x1 x2 x3;have HX:Hd (∀W,Fr (· =D) w W->ARow W g (off+k*4) ck ca cn s):=fun W q=>⟨(World.cell?_of_block (q.block g hgw hgD)).trans x0,(World.cell?_of_block (q.block g hgw hgD)).trans x1,(World.cell?_of_block (q.block g hgw hgD)).trans x2,(World.cell?_of_block (q.block g hgw hgD)).trans x3⟩;have HLO:=Lh hlenk;have hd:=hR.blk;have hf:=hR.fr;have HL16:=Lh hL16;clear x0 x1 x2 x3 hat hch hsz hal hgc hL16 hR hlenk;have HI1:Hd ((prog.info? 51).map (·.size)=some ((gone (d.loose.take k) d.sure).map Value.string).length):=by show _=_;rw[List.length_map,HGL.o];exact files_sizeR
   have HI2:Hd ((prog.info? 51).map (·.size)=some (L.map Value.string).toArray.size):=by show _=_;rw[List.size_toArray,List.length_map,HL16.o];exact files_sizeR
   generalize gone (d.loose.take k) d.sure=G at*
   go_upto_region 2 with fail
   replace hd:Blk wr.drew _ _ _:=hd;replace hf:=hf.drew;have hx:CrS wr.drew D g (off+k*4) (.slice (some ⟨g,off,none⟩) len lc) ck ca cn s:=⟨c33,HX.o _ hf⟩;clear c33;refine wp_region_held_drew (S:=(fun w'=>CrS w' D g (off+k*4) (.slice (some ⟨g,off,none⟩) len lc) ck ca cn s)) (by kernel_rfl) ?_ (fun hHeld=>tk0 ?_)
   ·exact hx
   repeat' first
    |refine tkS 4 (by decide+kernel) (by decide+kernel) ?_
    |refine tkS 21 (by decide+kernel) (by decide+kernel) ?_
    |refine tkS 24 (by decide+kernel) (by decide+kernel) ?_
    |refine tkN ?_
    |(refine tkX ?_;try simp only[Act.put,tkA,tkB,tkC,tkD,tkE,tkF])
    |(refine tkt (v:=?_) (by decide+kernel) rfl (by rfl) (fun _ _ _ h=>h) (by assumption) ?_ ?_;rotate_left;(· intro w' hSw;(try dsimp only at hSw);have z:=hSw.sl;have z0:=hSw.row.c0;have z1:=hSw.row.c1;have z2:=hSw.row.c2;have z3:=hSw.row.c3;clear hSw;go_simp;(try with_reducible rfl));try simp only[Act.put,tkA,tkB,tkC,tkD,tkE,tkF])
    |refine tkM ?_
    |refine tkZ ?_
    |refine tkB1 ?_
    |refine brN ?_
    |exact brE
    |refine brc rfl (fun K hK=>?_) ?_
    |(replace hK:=hK;refine opD 23 (by decide+kernel) ?_;refine step_wp (by rfl) (wp_load_mid 51 (.tmp 22) (by rfl) D 17 (by rfl) _ _ (dk_range_sure hd HLO.o) underlying51 rfl HI1.o ?_);refine hK.out _ _ ?_ (fun hHeld=>?_);(· exact⟨(hd.cell 33).trans (dkC_33 (by first|exact HLO.o|exact⟨HLD.o.n,HL16.o⟩)),HX.o _ hf⟩);clear hK K;try simp only[Act.put,tkA,tkB,tkC,tkD,tkE,tkF])
    |(replace hK:=hK;refine opD 40 (by decide+kernel) ?_;go_simp;go_at_call 52;refine(HMD.o _).mono ?_;rintro e w5 ⟨rfl,hb5⟩;skip;replace hd:=hd.below hb5 hd.lt;replace hf:=hf.trans (Fr.of_new hb5);refine hK.out _ _ ?_ (fun hHeld=>?_);(· exact⟨(hd.cell 33).trans (dkC_33 (by first|exact HLO.o|exact⟨HLD.o.n,HL16.o⟩)),HX.o _ hf⟩);clear hK K;try simp only[Act.put,tkA,tkB,tkC,tkD,tkE,tkF])
    |(replace hK:=hK;refine opIs 2 (by decide+kernel) ?_;have hT:=dk_there hd HLO.o 17 16 (by omega);refine step_wp (by rfl) (wp_store_mid 51 (.tmp 42) (.tmp 40) (by rfl) D 17 (L.map Value.string).toArray (by rfl) (by rfl) (by simpa[HL16.o]using hT) HI2.o (strs_one L) ?_);replace hd:=dk_store_sure hd HLO.o HL16.o;replace hf:=hf.setCells D (L.map Value.string) 17 _ (.inl rfl);skip;refine hK.out _ _ ?_ (fun hHeld=>?_);(· exact⟨(hd.cell 33).trans (dkC_33 (by first|exact HLO.o|exact⟨HLD.o.n,HL16.o⟩)),HX.o _ hf⟩);clear hK K;try simp only[Act.put,tkA,tkB,tkC,tkD,tkE,tkF])
    |fail
   generalize World.setCells _ _ _ _=W3 at*;clear hx
   go_wp2_with fail
   go_roundw
   case rel=>exact⟨k+1,by go_num,by omega,⟨by rw[HGT.o];exact hd,hf⟩⟩
   case measure=>simp[intOf];omega
  ·obtain rfl:k=n:=by omega
   have hfin:decide ((k:Int)<(len:Int))=false/\d.kept changes bytes=gone (d.loose.take k) d.sure\/decide ((k:Int)<(len:Int))=true/\decide ((k:Int)<changes)=false/\ ∃hk:k<d.loose.length,d.kept changes bytes=d.loose[k].part bytes (gone (d.loose.take k) d.sure):=by
    have e:=HKE.o;have hl:=HLEN.o
    (try rw[hl,HN.o]at e)
    by_cases hk:k<len
    ·rw[List.drop_eq_getElem_cons (show k<d.loose.length by omega)]at e;exact .inr ⟨dt0 (by omega),df0 (by omega),by omega,e⟩
    ·rw[List.drop_of_length_le (by omega)]at e;exact .inl ⟨df0 (by omega),e⟩
   have hd:=hR.blk;have hf:=hR.fr;clear hR hcl;generalize d.kept changes bytes=L at*;rcases hfin with ⟨e1,hke⟩|⟨e1,e2,hkl,hke⟩
   focus
    obtain rfl:k=len:=by have:=of_decide_eq_false e1;omega
   rotate_left
   focus
    obtain⟨g,off,rfl,hgD,hgw,hgc⟩: ∃g off,la=some ⟨g,off,none⟩/\g≠D/\g<w.heap.size/\ ∀j,j<len*4->w.cell? ⟨g,off+j,none⟩=(chsL d.loose)[j]? :=by
     rcases HROW.o with h0|h0
     ·have:=of_decide_eq_true e1;omega
     ·exact h0
    have hkn:k<len:=by have:=of_decide_eq_true e1;omega
    obtain⟨ck,ca,cn,s,hch,hfm,_⟩:=chL_form d.loose[k];have hat:=fun j (hj:j<4)=>(hgc (k*4+j) (by omega)).trans ((chsL_at d.loose k hkl j hj).trans (by rw[hch]));have x0:=hat 0 (by omega);have x1:=hat 1 (by omega);have x2:=hat 2 (by omega);have x3:=hat 3 (by omega);simp only[<-Nat.add_assoc,Nat.add_zero,List.getElem?_cons_zero,List.getElem?_cons_succ]at x0 x1 x2 x3;have HX:Hd (∀W,Fr (· =D) w W->ARow W g (off+k*4) ck ca cn s):=fun W q=>⟨(World.cell?_of_block (q.block g hgw hgD)).trans x0,(World.cell?_of_block (q.block g hgw hgD)).trans x1,(World.cell?_of_block (q.block g hgw hgD)).trans x2,(World.cell?_of_block (q.block g hgw hgD)).trans x3⟩;have z0:=(HX.o _ hf).c0;clear x0 x1 x2 x3 hat hgc;rcases hfm with ⟨q1,f,hcf⟩|⟨q1,hpt⟩
    focus
     have HMD:=Lh (fun W=>HMK.o k _ (List.getElem?_eq_getElem hkl) bytes W);rw[hch,show d.loose[k].mk bytes (gone (d.loose.take k) d.sure)=L by rw[hke,hcf];rfl]at HMD;have HLO:=Lh hlenk;have HI1:Hd ((prog.info? 51).map (·.size)=some ((gone (d.loose.take k) d.sure).map Value.string).length):=by show _=_;rw[List.length_map,HGL.o];exact files_sizeR
     have HL16:=HKL;have HI2:Hd ((prog.info? 51).map (·.size)=some (L.map Value.string).toArray.size):=by show _=_;rw[List.size_toArray,List.length_map,HL16.o];exact files_sizeR
     clear hch hcf hke hlenk;generalize gone (d.loose.take k) d.sure=G at*
     go_upto_region 5 with fail
     clear z0;replace hd:Blk wr.drew _ _ _:=hd;replace hf:=hf.drew;have hx:CrS wr.drew D g (off+k*4) (.slice (some ⟨g,off,none⟩) len lc) ck ca cn s:=⟨c33,HX.o _ hf⟩;clear c33;refine wp_region_held_drew (S:=(fun w'=>CrS w' D g (off+k*4) (.slice (some ⟨g,off,none⟩) len lc) ck ca cn s)) (by kernel_rfl) ?_ (fun hHeld=>tk0 ?_)
     ·exact hx
     repeat' first
      |refine tkS 4 (by decide+kernel) (by decide+kernel) ?_
      |refine tkS 13 (by decide+kernel) (by decide+kernel) ?_
      |refine tkS 16 (by decide+kernel) (by decide+kernel) ?_
      |refine tkN ?_
      |(refine tkX ?_;try simp only[Act.put,tkA,tkB,tkC,tkD,tkE,tkF])
      |(refine tkt (v:=?_) (by decide+kernel) rfl (by rfl) (fun _ _ _ h=>h) (by assumption) ?_ ?_;rotate_left;(· intro w' hSw;(try dsimp only at hSw);have z:=hSw.sl;have z0:=hSw.row.c0;have z1:=hSw.row.c1;have z2:=hSw.row.c2;have z3:=hSw.row.c3;clear hSw;go_simp;(try with_reducible rfl));try simp only[Act.put,tkA,tkB,tkC,tkD,tkE,tkF])
      |refine tkM ?_
      |refine tkZ ?_
      |refine tkB1 ?_
      |refine brN ?_
      |exact brE
      |refine brc rfl (fun K hK=>?_) ?_
      |(replace hK:=hK;refine opD 67 (by decide+kernel) ?_;refine step_wp (by rfl) (wp_load_mid 51 (.tmp 66) (by rfl) D 17 (by rfl) _ _ (dk_range_sure hd HLO.o) underlying51 rfl HI1.o ?_);refine hK.out _ _ ?_ (fun hHeld=>?_);(· exact⟨(hd.cell 33).trans (dkC_33 (by first|exact HLO.o|exact⟨HLD.o.n,HL16.o⟩)),HX.o _ hf⟩);clear hK K;try simp only[Act.put,tkA,tkB,tkC,tkD,tkE,tkF])
      |(replace hK:=hK;refine opD 76 (by decide+kernel) ?_;go_simp;go_at_call 52;refine(HMD.o _).mono ?_;rintro e w5 ⟨rfl,hb5⟩;skip;replace hd:=hd.below hb5 hd.lt;replace hf:=hf.trans (Fr.of_new hb5);refine hK.out _ _ ?_ (fun hHeld=>?_);(· exact⟨(hd.cell 33).trans (dkC_33 (by first|exact HLO.o|exact⟨HLD.o.n,HL16.o⟩)),HX.o _ hf⟩);clear hK K;try simp only[Act.put,tkA,tkB,tkC,tkD,tkE,tkF])
      |(replace hK:=hK;refine opIs 2 (by decide+kernel) ?_;have hT:=dk_there hd HLO.o 17 16 (by omega);refine step_wp (by rfl) (wp_store_mid 51 (.tmp 78) (.tmp 76) (by rfl) D 17 (L.map Value.string).toArray (by rfl) (by rfl) (by simpa[HL16.o]using hT) HI2.o (strs_one L) ?_);replace hd:=dk_store_sure hd HLO.o HL16.o;replace hf:=hf.setCells D (L.map Value.string) 17 _ (.inl rfl);skip;refine hK.out _ _ ?_ (fun hHeld=>?_);(· exact⟨(hd.cell 33).trans (dkC_33 (by first|exact HLO.o|exact⟨HLD.o.n,HL16.o⟩)),HX.o _ hf⟩);clear hK K;try simp only[Act.put,tkA,tkB,tkC,tkD,tkE,tkF])
      |fail
     generalize World.setCells _ _ _ _=W3 at*
    rotate_left
    focus
     rw[hpt]at hke;clear hpt
   all_goals
    (try rw[<-hke]at hd)
    (try clear hke)
    have HL2:Hd (Dk.Len {d with sure:=L}):=⟨HLD.o.n,HKL.o⟩;have HL3:Hd (Dk.Len {d with now:=L,sure:=L}):=⟨HKL.o,HKL.o⟩;have HKI:Hd ((prog.info? 51).map (·.size)=some ((L).map Value.string).length):=by show _=_;rw[List.length_map,HKL.o];exact files_sizeR
    have HRS:=Lh (dk_range_sure hd HL2.o);have HTS:=Lh (dk_there hd HL2.o 1 16 (by omega));have HBN:=Lh (dk_store_now hd HL2.o HKL.o);have HFR:=Lh hf;have e33:=(HBN.o.cell 33).trans (dkC_33 HL3.o);have e34:=(HBN.o.cell 34).trans (dkC_34 HL3.o);have e35:=(HBN.o.cell 35).trans (dkC_35 HL3.o);have g33:=HBN.o.free 33;have g34:=HBN.o.free 34;have g35:=HBN.o.free 35;clear hd hf HMK HROW HGL
    go_upto_region 6 with fail
    (try clear z0)
    go_wp2_with (first|(refine wpList_load_mid rfl 51 (.tmp 82) rfl D 17 rfl _ _ HRS.o underlying51 rfl HKI.o ?_)|(refine wpList_store_mid rfl 51 (.tmp 85) (.tmp 83) rfl D 1 (L.map Value.string).toArray rfl rfl (by simpa[HKL.o]using HTS.o) (by simpa using HKI.o) (strs_one L) ?_)|fail)
    go_end0
    have hi:=HI.o;rw[HCE.o]at hi⊢;exact⟨rfl,HH.o.set hi (crash_fin HKL.o HBN.o) ((((HFR.o.setCells D _ 1 _ (.inl rfl)).setCell (p:=⟨D,33,none⟩) (.inl rfl) _).setCell (p:=⟨D,34,none⟩) (.inl rfl) _).setCell (p:=⟨D,35,none⟩) (.inl rfl) _) ⟨rfl,none,0,rfl,le0,ze0,.inl rfl⟩⟩
structure RLg (w:World) (M F:Nat->Prop) (L D:Nat) (g:Lg) (d:Dk):Prop where
 dk:RDk w M D d
 lm: ¬M L/\ ¬F L/\L<w.heap.size
 ap: ∀b,F b-> ¬M b/\b<w.heap.size
 few:g.l.length<=1000000000/\g.sure<=1000000000
 ex: ∃fv,Blk w L 94 #[px D,.int .i64 (g.file:Int),fv,.int .i64 (g.sure:Int)]/\SlP w F 2 fv g.l.length (fmL g.l)
def RLgTo (w w':World) (M F:Nat->Prop) (L D:Nat) (g':Lg) (d':Dk):Prop:=
 Fr (fun b=>M b\/b=L) w w'/\ ∃M' F',(∀b,M' b->M b\/w.heap.size<=b)/\(∀b,F b->F' b)/\(∀b,F' b->F b\/w.heap.size<=b)/\RLg w' M' F' L D g' d'
namespace RLg
variable {w w':World} {M F:Nat->Prop} {L D:Nat} {g:Lg} {d d':Dk}
theorem keep (h:RLg w M F L D g d) (hs:w.heap.size<=w'.heap.size) (hk: ∀b,M b\/F b\/b=L->w'.heap[b]? =w.heap[b]?):RLg w' M F L D g d:=by
 obtain⟨fv,h1,h2⟩:=h.ex;exact⟨h.dk.keep hs fun b q=>hk b (.inl q),⟨h.lm.1,h.lm.2.1,lt1 h.lm.2.2 hs⟩,fun b q=>⟨(h.ap b q).1,lt1 (h.ap b q).2 hs⟩,h.few,fv,(hk L (.inr (.inr rfl))).trans h1,h2.keep (fun _ q=>q) fun b q=>hk b (.inr (.inl q))⟩
theorem lt (h:RLg w M F L D g d): ∀b,M b\/F b\/b=L->b<w.heap.size:=fun b q=>by
 rcases q with q|q|rfl
 ·exact h.dk.lt b q
 ·exact(h.ap b q).2
 ·exact h.lm.2.2
theorem below (h:RLg w M F L D g d) (hb:Below w.heap.size w w'):RLg w' M F L D g d:=h.keep hb.size fun b q=>hb.block b (h.lt b q)
theorem toB (h:RLg w M F L D g d) (hb:Below w.heap.size w w'):RLgTo w w' M F L D g d:=⟨Fr.of_new hb,M,F,fun _ q=> .inl q,fun _ q=>q,fun _ q=> .inl q,h.below hb⟩
theorem disk (h:RLg w M F L D g d) (hT:RDkTo w w' M D d'):RLgTo w w' M F L D g d':=by
 obtain⟨hf,N,hN,hd⟩:=hT;obtain⟨fv,h1,h2⟩:=h.ex;refine⟨hf.mono fun b _ q=> .inl q,N,F,hN,fun _ q=>q,fun _ q=> .inl q,hd,⟨fun q=>?_,h.lm.2.1,lt1 h.lm.2.2 hf.size⟩,fun b q=>⟨fun k=>?_,lt1 (h.ap b q).2 hf.size⟩,h.few,fv,(hf.block L h.lm.2.2 h.lm.1).trans h1,h2.keep (fun _ q=>q) fun b q=>hf.block b (h.ap b q).2 (h.ap b q).1⟩
 ·rcases hN L q with q|q
  ·exact h.lm.1 q
  ·have:=h.lm.2.2;omega
 ·rcases hN b k with k|k
  ·exact(h.ap b q).1 k
  ·have:=(h.ap b q).2;omega
end RLg
theorem RLgTo.trans {w w1 w2:World} {M F:Nat->Prop} {L D:Nat} {g1 g2:Lg} {d1 d2:Dk} (h:RLgTo w w1 M F L D g1 d1) (k: ∀N G,RLg w1 N G L D g1 d1->RLgTo w1 w2 N G L D g2 d2):RLgTo w w2 M F L D g2 d2:=by
 obtain⟨hf,N,G,hN,hG1,hG,h1⟩:=h;obtain⟨hf2,N2,G2,hN2,hG3,hG2,h2⟩:=k N G h1;have hz:=hf.size;refine⟨hf.step hf2 (fun _ _ h=>h) (fun i hi hn=>?_),N2,G2,fun b q=>?_,fun b q=>hG3 b (hG1 b q),fun b q=>?_,h2⟩
 ·rcases hn with hn|hn
  ·rcases hN i hn with e|e
   ·exact .inl e
   ·omega
  ·exact .inr hn
 ·rcases hN2 b q with e|e
  ·exact hN b e
  ·exact .inr (by omega)
 ·rcases hG2 b q with e|e
  ·exact hG b e
  ·exact .inr (by omega)
theorem RLg.set {w w':World} {M F G:Nat->Prop} {L D:Nat} {g g':Lg} {d:Dk} {fv:Value} (h:RLg w M F L D g d) (hf:Fr (· =L) w w') (hb:Blk w' L 94 #[px D,.int .i64 (g'.file:Int),fv,.int .i64 (g'.sure:Int)])
  (hG: ∀b,G b->F b\/(w.heap.size<=b/\b<w'.heap.size)) (hl:SlP w' G 2 fv g'.l.length (fmL g'.l)) (hw:g'.l.length<=1000000000/\g'.sure<=1000000000):RLgTo w w' M F L D g' d:=by
 have hL:=h.lm.2.2;refine⟨hf.mono fun b _ q=> .inr q,M,fun b=>F b\/G b,fun _ q=> .inl q,fun _ q=> .inl q,fun b q=>?_,h.dk.fr hf (fun b q e=>h.lm.1 (e▸q)),⟨h.lm.1,?_,lt1 hL hf.size⟩,fun b q=>?_,hw,fv,hb,hl.keep (fun _ q=> .inr q) fun _ _=>rfl⟩
 ·rcases q with q|q
  ·exact .inl q
  ·exact(hG b q).imp id And.left
 ·rintro (q|q)
  ·exact h.lm.2.1 q
  ·rcases hG L q with e|e
   ·exact h.lm.2.1 e
   ·omega
 ·have e:F b\/(w.heap.size<=b/\b<w'.heap.size):=q.elim .inl (hG b);rcases e with e|e
  ·exact⟨(h.ap b e).1,lt1 (h.ap b e).2 hf.size⟩
  ·exact⟨fun k=>by have:=h.dk.lt b k;omega,e.2⟩
theorem RDkTo.join {w w1 w2:World} {M N:Nat->Prop} {D:Nat} {d:Dk} (hf:Fr M w w1) (hN: ∀b,N b->M b\/w.heap.size<=b) (h:RDkTo w1 w2 N D d):RDkTo w w2 M D d:=by
 obtain⟨hf2,N2,hN2,h2⟩:=h;refine⟨hf.step hf2 (fun _ _ h=>h) (fun i hi hn=>?_),N2,fun b hb=>?_,h2⟩
 ·rcases hN i hn with h|h
  ·exact h
  ·omega
 ·rcases hN2 b hb with h|h
  ·exact hN b h
  ·exact .inr (le1 hf.size h)
theorem RLg.setSure {w:World} {M F:Nat->Prop} {L D:Nat} {g:Lg} {d:Dk} (h:RLg w M F L D g d) (n:Nat) (hn:n<=1000000000):RLgTo w (w.setCell ⟨L,3,none⟩ (.int .i64 (n:Int))) M F L D ⟨g.file,g.l,n⟩ d:=by
 obtain⟨fv,h1,h2⟩:=h.ex;refine h.set (G:=F) ((Fr.refl (· =L) w).setCell (p:=⟨L,3,none⟩) (.inl rfl) _) ((h1.set 3 (.int .i64 (n:Int))).same rfl) (fun _ q=> .inl q) (h2.keep (fun _ q=>q) fun b q=>heap_setCell_other w ⟨L,3,none⟩ b _ (fun e=>h.lm.2.1 (by have e:b=L:=e;rw[<-e];exact q))) ⟨h.few.1,hn⟩
theorem RLgTo.pre {w W w2:World} {M F:Nat->Prop} {L D:Nat} {g:Lg} {d:Dk} (hb:Below w.heap.size w W) (h:RLgTo W w2 M F L D g d):RLgTo w w2 M F L D g d:=by
 obtain⟨hf,N,G,hN,hG1,hG,h1⟩:=h;have hz:=hb.size;exact⟨(Fr.of_new hb).trans hf,N,G,fun b q=>(hN b q).imp id (le1 hz),hG1,fun b q=>(hG b q).imp id (le1 hz),h1⟩
theorem fmL_len (l:List Frm):(fmL l).length=l.length*2:=by
 induction l with
 |nil=>rfl
 |cons p l ih=>
  show(_::_::fmL l).length=_;rw[List.length_cons,List.length_cons,ih,List.length_cons];omega
theorem fmL_one (l:List Frm): ∀u∈fmL l,u.oneCell'=true:=by
 intro u hu;unfold fmL at hu;obtain⟨c,_,hc⟩:=List.mem_flatMap.1 hu;simp only[List.mem_cons,List.not_mem_nil,or_false]at hc;rcases hc with rfl|rfl<;>rfl
theorem rlSync_c (w:World) (M F:Nat->Prop) (L D:Nat) (g:Lg) (d:Dk) (h:RLg w M F L D g d):
  Calls prog 59 #[px L] w fun e w'=>e= .returned (.int .i64 (Lg.sync d g).2.2)/\RLgTo w w' M F L D (Lg.sync d g).2.1 (Lg.sync d g).1:=by
 obtain⟨fv,hb,hl⟩:=h.ex;have HH:=Lh h;have HSL:=Lh hl;obtain⟨_,a,cap,rfl,hcp,hmx,_⟩:=hl;have c0:=hb.cell 0;have c2:=hb.cell 2;have c3:=hb.cell 3;have hll:=h.few;have hLl:=h.lm.2.2;have HE:Hd (Lg.sync d g=if g.sure=g.l.length then(d,g,0)else if d.sync.2≠0 then(d.sync.1,g,d.sync.2)else(d.sync.1,⟨g.file,g.l,g.l.length⟩,0)):=rfl;have HS:=Lh (fun W (q:RLg W M F L D g d)=>rSync_c W M D d q.dk);generalize Lg.sync d g=R at*;unfold px at c0 HS⊢;by_cases he:g.sure=g.l.length
 ·rw[if_pos he]at HE;have e1:((g.sure:Int)==(g.l.length:Int))=true:=by rw[beq_iff_eq];omega
  clear he h hb;go_enter func59,ntmps59
  go_wp2_with fail
  go_quiet (fail)
  go_wp2_with fail
  go_ret;rw[HE.o];exact⟨rfl,HH.o.toB (below_drewN br0 _)⟩
 rw[if_neg he]at HE;have e1:((g.sure:Int)==(g.l.length:Int))=false:=by rw[bq0];omega
 clear he h;go_enter func59,ntmps59
 go_wp2_with fail
 go_quiet (fail)
 have hB:=below_drewN (Below.refl w.heap.size w) nq;have HW:=Lh (HH.o.below hB);have c0:(w.drewN nq).cell? ⟨L,0,none⟩=some (.pointer (some ⟨D,0,none⟩)):=c0;have HB:=Lh (show Blk (w.drewN nq) L _ _ from hb);clear c2 c3 hb;generalize World.drewN w nq=W at*;have HS2:=Lh (HS.o W HW.o);by_cases h0:d.sync.2=0
 ·rw[if_neg (by simpa using h0)]at HE;rw[h0]at HS2;clear h0
  go_upto_region 5 with (first|(go_at_call 38;refine HS2.o.mono ?_;rintro e w1 ⟨rfl,hT⟩))
  have hb1:Blk w1 L _ _:=(hT.1.block L HB.o.lt HW.o.lm.1).trans HB.o;have HB1:=Lh hb1;have c2:=hb1.cell 2;have c3:=hb1.cell 3;have f3:=Blk.free hb1 3;have hL1:=Blk.lt hb1;have HT:=Lh (HW.o.disk hT);clear hb1 hT
  go_wp2_with fail
  go_ret;rw[HE.o];exact⟨rfl,RLgTo.pre hB (HT.o.trans fun N G q=>q.setSure _ hll.1)⟩
 ·rw[if_pos h0]at HE;have e2:(d.sync.2==0)=false:=by rw[bq0];exact h0
  clear h0
  go_wp2_with (first|(go_at_call 38;refine HS2.o.mono ?_;rintro e w1 ⟨rfl,hT⟩))
  go_ret;rw[HE.o];exact⟨rfl,RLgTo.pre hB (HW.o.disk hT)⟩
theorem rlPut_c (w:World) (M F:Nat->Prop) (L D:Nat) (g:Lg) (d:Dk) (h:RLg w M F L D g d) (k:Nat) (u:ByteArray) (hk0:0<k) (hk1:k<256) (hu:u.size<=65536) (hll:d.loose.length<=1000000000) (hgl:g.l.length<=100000000):
  Calls prog 57 #[px L,.int .u8 (k:Int),.string u] w fun e w'=>e= .returned (.int .i64 (Lg.put d g k u).2.2)/\RLgTo w w' M F L D (Lg.put d g k u).2.1 (Lg.put d g k u).1:=by
 obtain⟨fv,hb,hl⟩:=h.ex;have HH:=Lh h;have HSL:=Lh hl;obtain⟨_,a,cap,rfl,hcp,hmx,_⟩:=hl;have HE:Hd (Lg.put d g k u=if k=0 then(d,g,2)else if 65536<u.size then(d,g,3)else if(d.append g.file (bstr (frL k u))).2≠0 then((d.append g.file (bstr (frL k u))).1,g,(d.append g.file (bstr (frL k u))).2)else
  ((d.append g.file (bstr (frL k u))).1,⟨g.file,g.l++ [(k,u)],g.sure⟩,0)):=rfl
 rw[if_neg (by omega),if_neg (by omega)]at HE;have HP:=Lh (rFPut_c k hk0 hk1 u hu w);have hsz:(bstr (frL k u)).size<=140737488355328:=by rw[bstr_size,frL_len];have:=(txtL_len u hu).1;omega
 have HA:=Lh (fun W (q:RLg W M F L D g d)=>rAppend_c W M D d q.dk (g.file:Int) _ (le1 hsz (by decide)) hll);have hLl:=h.lm.2.2;generalize Lg.put d g k u=R at*;generalize bstr (frL k u)=S at*;unfold px at HA⊢;clear h;go_enter func57,ntmps57
 go_upto_region 4 with (go_at_call 96;refine HP.o.mono ?_;rintro e w1 ⟨rfl,hb1⟩)
 have HW:=Lh (HH.o.below hb1);have hx:=hb.below hb1 hLl;have HX:=Lh hx;have HA2:=Lh (HA.o w1.drew (HW.o.below br0.drew));generalize d.append g.file S=ra at*;obtain⟨d2,er⟩:=ra;dsimp only at HE HA2
 go_cut [8] (fun s8 wx=>s8= .int .i64 er/\RDkTo w1 wx M D d2)
 case first=>
  have c0:=hx.cell 0;have c1:=hx.cell 1;unfold px at c0
  go_region_with (go_at_call 32;refine HA2.o.mono ?_;rintro e w2 ⟨rfl,hT⟩)
  all_goals
   go_wp2_with fail
   go_meet;exact⟨rfl,hT.1.undrew,hT.2⟩
 case rest=>
 obtain⟨rfl,hT⟩:=hcut;have HT:=Lh (HW.o.disk hT);by_cases h0:er=0
 ·subst h0;rw[if_neg (by decide)]at HE;have hx:Blk wc L _ _:=(hT.1.block L HX.o.lt HW.o.lm.1).trans HX.o
  go_upto_region 6 with fail
  obtain⟨i0,ii,iz0,iz1,iz2⟩:=info_parts info_fm;have HSP:=Lh (HSL.o.keep (w':=w1) (fun _ q=>q) fun b q=>hb1.block b (HH.o.ap b q).2);have HNW2:Hd (∀W',Below wc.heap.size wc W'->(∀p,a=some p-> ∀j u,(fmL g.l)[j]? =some u->W'.cell? (p.add j)=some u)/\(a=none->g.l.length=0)):=fun W' q=>HSP.o.news fun b k=>(q.block b (lt1 (HW.o.ap b k).2 hT.1.size)).trans (hT.1.block b (HW.o.ap b k).2 (HW.o.ap b k).1);have HLC:=Lh (fmL_len g.l);have hone:=fmL_one g.l;have HX2:=Lh hx;have hLz:=hx.lt;have c2:=HX2.o.cell 2;have hb0:=(Below.refl wc.heap.size wc).alloc le0 (.cells #[] 97);have HA:=Lh (own_newE (Below.refl wc.heap.size wc) le0 97 2);have HB0:=Lh hb0;clear hT hx
  go_wp2_with (first
   |(at_builtin;refine wpList_app 24 rfl (.tmp 31) (.tmp 35) rfl underlying92 ii iz0 iz1 iz2 rfl (by decide) rfl HA.o rfl HLC.o (HNW2.o _ HB0.o).1 hone (HNW2.o _ HB0.o).2 (by unfold maxLen;omega) (by omega) HB0.o.size ?_;intro a1 c1 w1 own1 hg1;simp only[Nat.zero_add,List.nil_append]at own1⊢;have hb1':=HB0.o.grown hg1 HB0.o.size (own_ge HA.o);have hC:=new_blkB hb1' #[.int .u8 (k:Int),.string u] 97;have hbC:=hb1'.alloc hb1'.size (.cells #[.int .u8 (k:Int),.string u] 97);have ownC:=own_alloc own1 (.cells #[.int .u8 (k:Int),.string u] 97))
   |(at_builtin;refine wpList_app 24 rfl (.tmp 36) (.tmp 40) rfl underlying92 ii iz0 iz1 iz2 rfl (by decide) rfl ownC rfl (news:=(#[.int .u8 (k:Int),.string u]).toList) rfl (fun p hp=>by cases hp;exact World.news_of_block hC) (by simp[Value.oneCell']) (by simp) (by unfold maxLen;omega) (by omega) hbC.size ?_;intro a2 c2' w2 own2 hg2;have hb:=hbC.grown hg2 hbC.size (own_ge ownC);have f2:=(HX2.o.below hb hLz).free 2;have c2:=(HX2.o.below hb hLz).cell 2)
   |fail)
  go_ret;rw[HE.o];refine⟨rfl,RLgTo.pre hb1 (HT.o.trans fun N G q=>?_)⟩;refine q.set (g':=⟨g.file,g.l++ [(k,u)],g.sure⟩) (G:=fun b=>wc.heap.size<=b/\b<(w2.setCell ⟨L,2,none⟩ (.slice a2 (g.l.length+1) c2')).heap.size) ((Fr.of_new (S:=(· =L)) hb).setCell (p:=⟨L,2,none⟩) (.inl rfl) _) (((HX2.o.below hb hLz).set 2 (.slice a2 (g.l.length+1) c2')).same rfl) (fun _ q=> .inr q) ?_ ⟨by show(g.l++ [(k,u)]).length<=_;rw[la0];simp;omega,HH.o.few.2⟩;show SlP _ _ 2 _ (g.l++ [(k,u)]).length _;rw[fmL_snoc,la0];exact SlP.of_own (own_other own2 (p:=⟨L,2,none⟩) hLz _)
 ·rw[if_pos h0]at HE;have e2:(er==0)=false:=by rw[bq0];exact h0
  go_wp2_with fail
  go_ret;rw[HE.o];exact⟨rfl,RLgTo.pre hb1 HT.o⟩
theorem frs_few (l:List Frm):l.length<=(frs l).length:=frs_count2 l
theorem RLg.opened {w w1 W:World} {M:Nat->Prop} {D f:Nat} {d':Dk} {a:Option Addr} {c:Nat} {l:List Frm} (hM: ∀b,M b->b<w.heap.size) (hb:Below w.heap.size w w1)
  (hl:w1.ownsRow w.heap.size 97 2 (.slice a l.length c) l.length (fmL l)) (hT:RDkTo w1 W M D d') (hw:l.length<=1000000000):
  ∃N G:Nat->Prop,Fr M w (W.alloc (.cells #[px D,.int .i64 (f:Int),.slice a l.length c,.int .i64 (l.length:Int)] 94))/\
   RLg (W.alloc (.cells #[px D,.int .i64 (f:Int),.slice a l.length c,.int .i64 (l.length:Int)] 94)) N G W.heap.size D ⟨f,l,l.length⟩ d'/\(∀b,N b->M b\/w.heap.size<=b)/\(∀b,G b->w.heap.size<=b)/\w.heap.size<=W.heap.size:=by
 obtain⟨hf,N,hN,hd⟩:=hT;have hz:=hb.size;have hz2:=hf.size;have hNl:=hd.lt;refine⟨N,fun b=>w.heap.size<=b/\b<w1.heap.size,((Fr.of_new hb).trans hf).alloc _,⟨hd.below (br0.alloc le0 _),⟨fun q=>Nat.lt_irrefl _ (hNl _ q),fun q=>by have:=q.2;omega,by simp⟩,fun b q=>⟨fun k=>?_,by simp;omega⟩,⟨hw,hw⟩,_,Blk.new W _ _,(SlP.of_own hl).keep (fun _ q=>q) fun b q=>?_⟩,fun b q=>(hN b q).imp id (le1 hz),fun b q=>q.1,by omega⟩
 ·rcases hN b k with k|k
  ·have:=hM b k;omega
  ·omega
 ·rw[alloc_old W _ b (by omega)];exact hf.block b q.2 (fun k=>by have:=hM b k;omega)
def LogP (w:World) (M:Nat->Prop) (D:Nat) (o:Dk×Option Lg×Int) (e:Ending) (w':World):Prop:=
 (∃e1,o.2=(none,e1)/\e= .returned (.tuple #[.pointer none,.int .i64 e1])/\RDkTo w w' M D o.1)\/
 (∃g L N G,o.2=(some g,0)/\e= .returned (.tuple #[px L,.int .i64 0])/\Fr M w w'/\RLg w' N G L D g o.1/\(∀b,N b->M b\/w.heap.size<=b)/\(∀b,G b->w.heap.size<=b)/\w.heap.size<=L)
theorem rlOpen_c (w:World) (M:Nat->Prop) (D:Nat) (d:Dk) (h:RDk w M D d) (f:Nat) (hf:f<16) (hll:d.loose.length<=100000000):
  Calls prog 46 #[px D,.int .i64 (f:Int)] w (LogP w M D (Lg.open d f)):=by
 have HR:=Lh (rRead_c w M D d h (f:Int));have HE:Hd (Lg.open d f=if d.off=true then(d,none,50)else
  if(frs (allF (fl d.now f))).length<(fl d.now f).size then
   if(d.cut f (frs (allF (fl d.now f))).length).2≠0 then((d.cut f (frs (allF (fl d.now f))).length).1,none,(d.cut f (frs (allF (fl d.now f))).length).2)else
   if(d.cut f (frs (allF (fl d.now f))).length).1.sync.2≠0 then((d.cut f (frs (allF (fl d.now f))).length).1.sync.1,none,(d.cut f (frs (allF (fl d.now f))).length).1.sync.2)else
   ((d.cut f (frs (allF (fl d.now f))).length).1.sync.1,some ⟨f,allF (fl d.now f),(allF (fl d.now f)).length⟩,0)
  else(d,some ⟨f,allF (fl d.now f),(allF (fl d.now f)).length⟩,0)):=rfl
 have HH:=Lh h;have hsz:(fl d.now f).size<=4194304:=by have:=sum_le d.now f;have:=h.inv.fits;have:=h.inv.room2;omega
 have hrd:d.read (f:Int)=if d.off=true then(.empty,50)else(fl d.now f,0):=by
  unfold Dk.read;rw[if_neg (show ¬Dk.isF (f:Int)=false by simp[Dk.isF];omega),Int.toNat_natCast]
 rw[hrd]at HR;have HCT:=Lh (fun W (q:RDk W M D d)=>rCut_c W M D d q (f:Int) ((frs (allF (fl d.now f))).length:Nat) (by omega));have hfew:(d.cut (f:Int) ((frs (allF (fl d.now f))).length:Nat)).1.loose.length<=1000000000:=by
  have:=d.does_few ⟨1,f,(frs (allF (fl d.now f))).length,0,.empty⟩;unfold Dk.does at this;simp only[if_neg (show ¬(1:Int)=0 by decide),if_pos]at this;omega
 generalize Lg.open d f=R at*;unfold px at HR HCT⊢;clear h hrd;by_cases ho:d.off=true
 ·rw[if_pos ho]at HE HR;clear ho;go_enter func46,ntmps46
  go_wp2_with (go_at_call 40;refine HR.o.mono ?_;rintro e w1 ⟨rfl,rfl⟩)
  go_ret2;refine .inl ⟨50,?_,rfl,?_⟩<;>rw[HE.o];exact HH.o.tos
 rw[if_neg ho]at HE HR;have HAL:=Lh (rAll_c (fl d.now f) (by omega));have hal:=allF_le (fl d.now f);have hfm:=frs_few (allF (fl d.now f));clear ho;generalize fl d.now f=s at*;generalize hA:allF s=A at*;clear hA;have HA0:=Lh (fun(W1 W:World) (d':Dk) (a:Option Addr) (c:Nat) (hb:Below w.heap.size w W1) (hl:W1.ownsRow w.heap.size 97 2 (.slice a A.length c) A.length (fmL A)) (hT:RDkTo W1 W M D d')=>RLg.opened (f:=f) HH.o.lt hb hl hT (by omega));generalize hNF:(frs A).length=nf at*;go_enter func46,ntmps46
 go_upto_region 5 with (first|(go_at_call 40;refine HR.o.mono ?_;rintro e w1 ⟨rfl,rfl⟩)|(go_at_call 78;refine(HAL.o _).mono ?_;rintro e w1 ⟨v,rfl,hown,hb1⟩))
 obtain⟨a,c,rfl,_,_⟩: ∃a c,v= .slice a A.length c/\A.length<=c/\c<=maxLen:=let ⟨a,c,h1,h2,h3,_⟩:=(SlP.of_own hown).2;⟨a,c,h1,h2,h3⟩;have HD1:=Lh (HH.o.below hb1);have HOWN:=Lh hown;have HB1:=Lh hb1;have hAl:A.length<=9223372036854775807:=by omega
 clear hown hb1;by_cases hlt:nf<s.size
 ·rw[if_pos hlt]at HE;have e1:decide ((nf:Int)<(s.size:Int))=true:=dt0 (by omega);have HCT2:=Lh (HCT.o w1 HD1.o);generalize d.cut (f:Int) (nf:Int)=rc at*;obtain⟨d1,er⟩:=rc;dsimp only at HE HCT2 hfew;clear HCT;have HSY:=Lh (fun W N (q:RDk W N D d1)=>rSync_c W N D d1 q);unfold px at HSY;by_cases h0:er=0
  ·subst h0;rw[if_neg (by decide)]at HE;generalize d1.sync=rs at*;obtain⟨d2,es⟩:=rs;dsimp only at HE HSY;by_cases h1:es=0
   ·subst h1;rw[if_neg (by decide)]at HE
    go_upto_region 11 with (first|(go_at_call 34;refine HCT2.o.mono ?_;rintro e w2 ⟨rfl,hT⟩;obtain⟨hf2,N,hN,hd2⟩:=id hT)|(go_at_call 38;refine(HSY.o _ N hd2).mono ?_;rintro e w3 ⟨rfl,hT3⟩))
    have hT4:RDkTo w1 w3 M D d2:=RDkTo.join hf2 hN hT3;obtain⟨N2,G2,q1,q2,q3,q4,q5⟩:=HA0.o _ _ _ _ _ HB1.o HOWN.o hT4
    go_wp2_with fail
    go_ret2;rw[HE.o];exact .inr ⟨_,_,N2,G2,rfl,rfl,q1,q2,q3,q4,q5⟩
   ·rw[if_pos h1]at HE;have e2:(es !=0)=true:=by simpa using h1
    go_wp2_with (first|(go_at_call 34;refine HCT2.o.mono ?_;rintro e w2 ⟨rfl,hT⟩;obtain⟨hf2,N,hN,hd2⟩:=id hT)|(go_at_call 38;refine(HSY.o _ N hd2).mono ?_;rintro e w3 ⟨rfl,hT3⟩))
    go_ret2;rw[HE.o];exact .inl ⟨_,rfl,rfl,RDkTo.join (Fr.of_new HB1.o) (fun _ q=> .inl q) (RDkTo.join hf2 hN hT3)⟩
  ·rw[if_pos h0]at HE;have e2:(er !=0)=true:=by simpa using h0
   have e3:(er==0)=false:=by simpa using h0
   go_wp2_with (go_at_call 34;refine HCT2.o.mono ?_;rintro e w2 ⟨rfl,hT⟩)
   go_ret2;rw[HE.o];exact .inl ⟨_,rfl,rfl,RDkTo.join (Fr.of_new HB1.o) (fun _ q=> .inl q) hT⟩
 ·rw[if_neg hlt]at HE;have e1:decide ((nf:Int)<(s.size:Int))=false:=df0 (by omega);obtain⟨N2,G2,q1,q2,q3,q4,q5⟩:=HA0.o _ _ _ _ _ HB1.o HOWN.o HD1.o.tos
  go_wp2_with fail
  go_ret2;rw[HE.o];exact .inr ⟨_,_,N2,G2,rfl,rfl,q1,q2,q3,q4,q5⟩
