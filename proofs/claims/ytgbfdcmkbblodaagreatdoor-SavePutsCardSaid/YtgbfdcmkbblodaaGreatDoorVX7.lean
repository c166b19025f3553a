/- Parts. -/
import Derived.Shelf.SlSortCmp.NoneTotal
import Derived.Test.YtgbfdcmkbblodaaGreatDoorVSK
import Derived.Test.YtgbfdcmkbblodaaGreatDoorVX5
namespace Go.Proofs.YtgbfdcmkbblodaaGreatDoor
open Go.RowKit
set_option linter.unusedVariables false
set_option linter.unusedSimpArgs false
set_option maxRecDepth 100000
set_option maxHeartbeats 16000000
open Tryz
section
open Go.RowKit Go.Sort Go.Shelf
theorem bef_self (a:Int):bef a a=0:=by unfold bef;simp
theorem bef_swo:SWO (ltOf bef):=by
 refine⟨fun x=>?_,fun x y z h1 h2=>?_,fun x y z h1 h2=>?_⟩
 ·unfold ltOf;rw[bef_self];rfl
 ·unfold ltOf at*;simp only[decide_eq_true_eq]at*;exact bef_trans h1 h2
 ·unfold ltOf at*;simp only[decide_eq_false_iff_not,Int.not_lt]at*;unfold bef at*
  repeat' split at h1
  all_goals repeat' split at h2
  all_goals repeat' split
  all_goals omega
theorem before_lays (blk off n:Nat) (w:World):CmpLays1 prog 132 #[] (Value.int .i64) bef blk off n w:=fun m os dk hs x y=>by
 refine(before_g x y _).mono ?_
 rintro e w1 ⟨rfl,o,rfl⟩
 refine⟨rfl,0,#[o],?_⟩
 unfold grow World.drewN
 show({sortWorld (Value.int .i64) w blk off m dk os with heap:=(sortWorld (Value.int .i64) w blk off m dk os).heap.push o}:World)=_
 rw[<-Array.append_singleton]
 rfl
theorem MapI.owns {w:World} {b:Nat} {kv:List (Int×Value)} (h:MapI w .i64 b kv) (hn:(kv.map (·.1)).Nodup) (h64: ∀p∈kv,I64 p.1) (hl:kv.length<=1000):
  ∃D:DataW Unit,w.ownsMap prog 2 (fun _=>some (.nil,[])) b kv.length D/\(∀ss:List Int,ss.Perm (intKeys D)->ss.Perm (kv.map (·.1)))/\Maps.size D=kv.length:=by
 obtain⟨es,clock,h1,h2,h3,h4⟩:=h;have hk:es.toList.map (·.key)=kv.map fun p=>Value.int .i64 p.1:=by
  have:=congrArg (List.map Prod.fst) h2;unfold kvs entsI at this;rw[List.map_map,List.map_map]at this;exact this
 have hsz:es.size=kv.length:=by
  have:=congrArg List.length hk;simpa using this
 have hkey: ∀x∈es.toList,∃r,x.key= .int .i64 r/\keyOf prog 2 x.key=some (.int .i64 r):=by
  intro x hx;have:x.key∈es.toList.map (·.key):=List.mem_map_of_mem hx;rw[hk]at this;obtain⟨p,hp,e⟩:=List.mem_map.1 this;refine⟨p.1,e.symm,?_⟩;rw[<-e];have:=h64 p hp;exact Maps.keyOf_int_mk underlying2 (by unfold I64 at this;rw[Lit.wf];simp only[IntKind.min,IntKind.max,IntKind.signed,IntKind.bits];simp;omega)
 have hrd: ∀x∈es.toList,∃r,x.key= .int .i64 r/\WideElems.rd (H:=Unit) prog 2 (fun _=>some (.nil,[])) x=some (.int .i64 r,.nil):=by
  intro x hx;obtain⟨r,e1,e2⟩:=hkey x hx;refine⟨r,e1,?_⟩;unfold WideElems.rd;rw[e2];rfl
 refine⟨.map ((es.toList.map (WideElems.rg prog 2 (fun _=>some (.nil,[])))).foldr DataW.insert []),⟨es,clock,h1,⟨by rw[hsz];unfold maxLen;omega,⟨h4,h3,?_⟩,fun x hx=>?_⟩,by omega,rfl⟩,fun ss hss=>?_,?_⟩
 ·rw[hk];have:(kv.map fun p=>Value.int .i64 p.1)=(kv.map (·.1)).map (Value.int .i64):=by simp
  rw[this];exact List.Pairwise.map _ (fun a b hab e=>hab (by cases e;rfl)) hn
 ·obtain⟨r,_,e⟩:=hrd x hx;exact⟨_,e⟩
 ·refine hss.trans ?_;have hp:=(WideShapes.sorted_perm (es.toList.map (WideElems.rg (H:=Unit) prog 2 (fun _=>some (.nil,[]))))).map fun p=>Go.intOf p.1;refine hp.trans (List.Perm.of_eq ?_);rw[List.map_map];have e1:es.toList.map ((fun p:Lit×DataW Unit=>Go.intOf p.1)∘WideElems.rg prog 2 (fun _=>some (.nil,[])))=es.toList.map (fun x=>Lib.intOf x.key):=by
   refine List.map_congr_left fun x hx=>?_;obtain⟨r,e1,e2⟩:=hrd x hx;show Go.intOf (WideElems.rg _ _ _ x).1=_;unfold WideElems.rg;rw[e2,e1];rfl
  rw[e1];have e2:=congrArg (List.map Lib.intOf) hk;rw[List.map_map,List.map_map]at e2;exact e2
 ·rw[Maps.size_eq,(WideShapes.sorted_perm _).length_eq,List.length_map,Array.length_toList,hsz]
theorem before_enters: ∀args w,(callFunc 132 args).run prog w= .ok (.enter 132 args) w:=fun args w=>by kernel_rfl
theorem keys1_enters: ∀args w,(callFunc 195 args).run prog w= .ok (.enter 195 args) w:=fun args w=>by kernel_rfl
theorem collect_c (Bm B:Nat) (kv:List (Int×Value)) (w:World) (hBm:Bm<w.heap.size) (hc:w.cell? ⟨Bm,0,none⟩=some (.map (some B))) (h:MapI w .i64 B kv) (hn:(kv.map (·.1)).Nodup) (h64: ∀p∈kv,I64 p.1) (hl:kv.length<=1000):
  Calls prog 193 #[.func (.func 195) #[] #[.pointer (some ⟨Bm,0,none⟩)]] w fun e w'=> ∃(v:Value) (ss:List Int),e= .returned v/\ss.Perm (kv.map (·.1))/\w'.ownsRow w.heap.size 2 1 v ss.length (ss.map (Value.int .i64))/\Below w.heap.size w w':=by
 obtain⟨D,hown,hperm,hsz⟩:=h.owns hn h64 hl;have hseq:=AnyZI.keys_gives (P:=prog) (ρ:=keysL_ren) {keysL with} Fence.wide 8 trivial rfl (by decide) Bm B kv.length D w hBm hc hown;refine(callsIn_wide.1 (AnyZI.collect_in collectL Fence.wide 10 trivial trivial rfl (by decide) 195 #[.pointer (some ⟨Bm,0,none⟩)] trivial keys1_enters _ (Maps.size D) (by rw[hsz];unfold maxLen;omega) (by omega) w hseq)).mono ?_;rintro e w1 ⟨v,ss,rfl,hS,hrow,_,hb⟩;exact⟨v,ss,rfl,hperm ss hS,hrow,hb⟩
theorem sort_c (gb cap:Nat) (ss:List Int) (W:World) (hH:Holds (Value.int .i64) W gb 0 ss.toArray) (hgb:gb<W.heap.size) (hl:ss.length<=1000):
  Calls prog 194 #[.slice (some ⟨gb,0,none⟩) ss.length cap,.func (.func 132) #[] #[]] W fun e w'=>e= .returned (.tuple #[])/\ ∃(ts:List Int) (n:Nat) (os:Array Obj),ts.Perm ss/\w'=grow (putRow (Value.int .i64) (Sort.ahead W n) gb 0 ts.toArray) os:=by
 refine(Any.slices_SortFunc sortL (Value.int .i64) (fun _=>rfl) bef bef_swo 132 #[] gb 0 cap ss.toArray W before_enters (before_lays gb 0 _ W) hH hgb (by simp;omega)).mono ?_;rintro e w1 ⟨rfl,d,n,os,hp,_,rfl⟩;refine⟨rfl,d.toList,n,os,?_,rfl⟩;have h1:=hp.1;have h2:=hp.2.2;have e1:ss.toArray.extract 0 ss.toArray.size=ss.toArray:=Array.extract_eq_self_of_le le0;have e2:d.extract 0 ss.toArray.size=d:=Array.extract_eq_self_of_le (Nat.le_of_eq h1);rw[e1,e2]at h2;exact h2
theorem sort_none (W:World):Calls prog 194 #[.slice none 0 0,.func (.func 132) #[] #[]] W fun e w'=>e= .returned (.tuple #[])/\w'=W:=
 AnyF.slices_SortFunc_none {sortL with} none 0 _ W
theorem SortedFunc_c (Bm B:Nat) (kv:List (Int×Value)) (w:World) (hBm:Bm<w.heap.size) (hc:w.cell? ⟨Bm,0,none⟩=some (.map (some B))) (h:MapI w .i64 B kv) (hn:(kv.map (·.1)).Nodup) (h64: ∀p∈kv,I64 p.1) (hl:kv.length<=1000):
  Calls prog 167 #[.func (.func 195) #[] #[.pointer (some ⟨Bm,0,none⟩)],.func (.func 132) #[] #[]] w fun e w'=> ∃(v:Value) (ks:List Int),e= .returned v/\ks.Perm (kv.map (·.1))/\InsP w' (fun b=>w.heap.size<=b/\b<w'.heap.size) ks v/\Below w.heap.size w w':=by
 have HC:=Lh (collect_c Bm B kv w hBm hc h hn h64 hl);have HL:Hd (kv.length<=1000):=hl;clear hc h hn h64 hl hBm;go_enter func167,ntmps167
 go_upto_region 2 with (first|(go_at_call 193;refine HC.o.mono ?_;rintro e W ⟨v,ss,rfl,hp,hrow,hb⟩)|fail)
 have hss:ss.length<=1000:=by have:=hp.length_eq;have:=HL.o;simp at*;omega
 rcases hrow.2 with ⟨rfl,hz⟩|⟨gb,cap,cur,rfl,hbase,hgb,r1,r2,r3,r4⟩
 ·obtain rfl:ss=[]:=List.eq_nil_of_length_eq_zero hz
  go_wp2_with (first|(go_at_call 194;refine(sort_none _).mono ?_;rintro e w2 ⟨rfl,rfl⟩)|fail)
  go_ret;exact⟨_,[],rfl,hp,.inl ⟨rfl,rfl⟩,hb⟩
 ·have hH:Holds (Value.int .i64) W gb 0 ss.toArray:=holds_of_block_i hgb (by simpa using r4);have HS:=Lh (sort_c gb cap ss W hH (Array.getElem?_eq_some_iff.1 hgb).1 hss);have HG:=Lh hgb;have HP:=Lh hp;clear hH r4 hgb hrow hp
  go_wp2_with (first|(go_at_call 194;refine HS.o.mono ?_;rintro e w2 ⟨rfl,ts,n,os,hq,rfl⟩)|fail)
  go_ret;have hrow2:=ownsRow_sorted_i (os:=os) (n:=n) (hq.length_eq) hbase HG.o r1 r2 r3;rw[<-hq.length_eq]at hrow2;have hb2:=hb.grown (grownBy_sorted_i (n:=n) (os:=os) ts.toArray) hb.size (fun j hj=>by cases hj;exact hbase);exact⟨_,ts,by rw[<-hq.length_eq];rfl,hq.trans HP.o,InsP.of_own hrow2,hb2⟩
theorem tkv_keys (ps:List (Trow×Value)):(tkv ps).map (·.1)=(ps.map Prod.fst).map (·.key):=by simp[tkv]
theorem Keys_c (P:Nat->Prop) (T B:Nat) (ps:List (Trow×Value)) (w:World) (h:TabAt w P T B ps) (hr:Rise (ps.map Prod.fst)) (h64: ∀p∈ps,I64 p.1.key) (hl:ps.length<=1000):
  Calls prog 135 #[px T] w fun e w'=> ∃(v:Value) (ks:List Int),e= .returned v/\ks.Perm ((ps.map Prod.fst).map (·.key))/\InsP w' (fun b=>w.heap.size<=b/\b<w'.heap.size) ks v/\Below w.heap.size w w':=by
 have t0:=h.box.cell 0;have hmap:=h.map.alloc (.cells #[.map (some B)] 192);have HK:Hd (Calls prog 168 #[.map (some B)] w fun e w'=>e= .returned (.func (.func 195) #[] #[.pointer (some ⟨w.heap.size,0,none⟩)])/\w'=w.alloc (.cells #[.map (some B)] 192)):=callsIn_wide.1 (AnyZI.keys_in keysL Fence.wide 3 trivial rfl (some B) w);have hn:=hr.keys;rw[<-tkv_keys]at hn;have HS:=Lh (SortedFunc_c w.heap.size B (tkv ps) (w.alloc (.cells #[.map (some B)] 192)) (by simp) ((Blk.new w #[.map (some B)] 192).cell 0) hmap hn (fun p hp=>by
  obtain⟨q,hq,rfl⟩:=List.mem_map.1 hp
  exact h64 q hq) (by rw[tkv_len];exact hl))
 rw[tkv_keys]at HS;have hb:Below w.heap.size w (w.alloc (.cells #[.map (some B)] 192)):=br0.alloc le0 _;have HSZ:Hd ((w.alloc (.cells #[.map (some B)] 192)).heap.size=w.heap.size+1):=by show _=_;simp
 clear h hmap hn hr;unfold px;go_enter func135,ntmps135
 go_wp2_with (first
  |(go_at_call 168;refine HK.o.mono ?_;rintro e w1 ⟨rfl,rfl⟩)
  |(go_at_call 167;refine HS.o.mono ?_;rintro e w2 ⟨v,ks,rfl,hp,hi,hb2⟩)
  |fail)
 go_ret;rw[HSZ.o]at hi hb2;exact⟨v,ks,rfl,hp,hi.keep (fun b hb=>⟨by omega,hb.2⟩) (fun _ _=>rfl),hb.trans (hb2.mono (by omega))⟩
end
theorem nodup_inj {α β:Type} (f:α->β): ∀(l:List α),(l.map f).Nodup-> ∀x∈l,∀y∈l,f x=f y->x=y
 | [],_,x,hx,_,_,_=>absurd hx (by simp)
 |z::l,h,x,hx,y,hy,e=>by
  rw[List.map_cons,List.nodup_cons]at h
  rcases List.mem_cons.1 hx with ex|hx2
  ·rcases List.mem_cons.1 hy with ey|hy2
   ·rw[ex,ey]
   ·exact absurd (by rw[<-ex,e];exact List.mem_map_of_mem hy2) h.1
  ·rcases List.mem_cons.1 hy with ey|hy2
   ·exact absurd (by rw[<-ey,<-e];exact List.mem_map_of_mem hx2) h.1
   ·exact nodup_inj f l h.2 x hx2 y hy2 e
theorem getI_row {ps:List (Trow×Value)} (hr:Rise (ps.map Prod.fst)) {p:Trow×Value} (hp:p∈ps):getI p.1.key (tkv ps)=some (.agg #[.int .i64 p.1.acc,p.2]):=by
 have hn:=hr.keys;rw[List.map_map]at hn;obtain⟨j,hj⟩:=findI_some p.1.key (.agg #[.int .i64 p.1.acc,p.2]) (tkv ps) 0 (fun q hq e=>by
  obtain⟨q0,hq0,rfl⟩:=List.mem_map.1 hq
  rw[nodup_inj _ ps hn q0 hq0 p hp e]) ⟨_,List.mem_map_of_mem hp,rfl⟩
 unfold getI;rw[hj];rfl
theorem TabAt.below {w w':World} {P:Nat->Prop} {T B:Nat} {ps:List (Trow×Value)} (h:TabAt w P T B ps) (hP: ∀b,P b->b<w.heap.size) (hb:Below w.heap.size w w'):TabAt w' P T B ps:=
 h.keep (hb.block T h.box.lt) (hb.block B h.map.lt) (fun _ h=>h) (fun b hb2=>hb.block b (hP b hb2))
theorem Get_c (P:Nat->Prop) (T B:Nat) (ps:List (Trow×Value)) (w:World) (h:TabAt w P T B ps) (hP: ∀b,P b->b<w.heap.size) (hr:Rise (ps.map Prod.fst)) (hl: ∀p∈ps,p.1.l.length<=16) (p:Trow×Value) (hp:p∈ps):
  Calls prog 136 #[px T,.int .i64 p.1.key] w fun e w'=>(∃a cap,e= .returned (.tuple #[.agg #[.int .i64 p.1.acc,.slice a p.1.l.length cap],.bool true]))/\Below w.heap.size w w':=by
 obtain⟨⟨key,acc,l⟩,v⟩:=p;have hi:=h.rows _ hp;have hl16:=hl _ hp;dsimp only at hi hl16⊢;obtain⟨a0,n0,c0,hve⟩: ∃a n c,v= .slice a n c:=by rcases hi with ⟨_,rfl⟩|⟨g,cap,rfl,_⟩<;>exact⟨_,_,_,rfl⟩
 subst hve;have hg:=getI_row hr hp;dsimp only at hg;have HG:=Lh hg;have h1:=h.below hP ((br0.alloc le0 (.cells #[.int .i64 0,.slice none 0 0] 189)));have t0:=h1.box.cell 0;have hm:=h1.map;have HO:Hd (∀W:World,Below w.heap.size w W->Calls prog 169 #[.agg #[.int .i64 acc,.slice a0 n0 c0]] W fun e w'=>(∃a cap,e= .returned (.agg #[.int .i64 acc,.slice a l.length cap]))/\Below W.heap.size W w'):=fun W hb=>
  own_c acc l hl16 P _ W (hi.keep (fun _ h=>h) (fun b hb2=>hb.block b (hP b hb2))) (fun b hb2=>lt1 (hP b hb2) hb.size)
 have hz: ∀W:World,(zeroValue 189).run prog W= .ok (.agg #[.int .i64 0,.slice none 0 0]) W:=fun W=>zero_cell _;have hb2:Below w.heap.size w ((w.alloc (.cells #[.int .i64 0,.slice none 0 0] 189)).alloc (.cells #[.int .i64 acc,.slice a0 n0 c0] 189)):=(br0.alloc le0 _).alloc (by simp) _;have hr0:Blk ((w.alloc (.cells #[.int .i64 0,.slice none 0 0] 189)).alloc (.cells #[.int .i64 acc,.slice a0 n0 c0] 189)) w.heap.size 189 #[.int .i64 0,.slice none 0 0]:=(Blk.new w _ _).alloc _;have HB2:=Lh hb2;have HR0:=Lh hr0;clear h h1 hi hl hg hP hr hp hb2 hr0;unfold px;go_enter func136,ntmps136
 go_wp2_with (first
  |(refine wpList_lookupI _ 192 2 189 underlying192 underlying2 _ (hz _) rfl _ _ rfl B _ rfl hm key rfl ?_;rw[HG.o])
  |(go_at_call 169;refine(HO.o _ HB2.o).mono ?_;rintro e w1 ⟨⟨a1,c1,rfl⟩,hb1⟩;have hr1:=HR0.o.below hb1 (by simp;omega);have q0:=hr1.cell 0;have q1:=hr1.cell 1;have f0:=hr1.free 0;have f1:=hr1.free 1)
  |fail)
 have g2:Blk ((w1.setCell ⟨w.heap.size,0,none⟩ (.int .i64 acc)).setCell ⟨w.heap.size,1,none⟩ (.slice a1 l.length c1)) w.heap.size 189 #[.int .i64 acc,.slice a1 l.length c1]:=(hr1.set 0 (.int .i64 acc)).set 1 (.slice a1 l.length c1);refine bodyPost_ret (v:= .tuple #[.agg #[_,_],_]) (results_cell_row2P rfl _ _ w.heap.size 189 _ (0,0) _ rfl g2 underlying189 rfl ?_ (.bool true) rfl) rfl ⟨⟨a1,c1,rfl⟩,?_⟩
 ·as_aux_lemma=>kernel_rfl
 exact((HB2.o.trans (hb1.mono HB2.o.size)).setCell (p:=⟨w.heap.size,0,none⟩) le0 _).setCell (p:=⟨w.heap.size,1,none⟩) le0 _
theorem rowFits6 (n key acc:Int) (l:List Int):rowFits 6 n ⟨key,acc,l⟩=!decide (0<l.length):=by
 unfold rowFits;rw[show((6:Int)==6)=true from rfl,show((6:Int)==7)=false from rfl,Bool.true_and,Bool.false_and,Bool.not_false,Bool.and_true]
theorem rowFits7 (n key acc:Int) (l:List Int):rowFits 7 n ⟨key,acc,l⟩=!(acc !=0||(decide (l.length<1)||decide (n<=(l.length:Int)))):=by
 unfold rowFits;rw[show((7:Int)==6)=false from rfl,show((7:Int)==7)=true from rfl,Bool.false_and,Bool.not_false,Bool.true_and,Bool.true_and]
theorem InsP.form {w:World} {P:Nat->Prop} {l:List Int} {v:Value} (h:InsP w P l v): ∃a c,v= .slice a l.length c:=by
 rcases h with ⟨rfl,rfl⟩|⟨g,cap,rfl,_⟩<;>exact⟨_,_,rfl⟩
theorem InsP.at_ {w:World} {P:Nat->Prop} {l:List Int} {v:Value} (h:InsP w P l v) (j:Nat) (hj:j<l.length): ∃g c,v= .slice (some ⟨g,0,none⟩) l.length c/\l.length<=c/\c<=maxLen/\P g/\w.cell? ⟨g,j,none⟩=some (.int .i64 l[j]):=by
 rcases h with ⟨rfl,rfl⟩|⟨g,cap,rfl,hp,h1,h2,h3⟩
 ·simp at hj
 ·exact⟨g,cap,rfl,h1,h2,hp,by rw[h3 j hj,List.getElem?_map,List.getElem?_eq_getElem hj];rfl⟩
theorem row_at {ps:List (Trow×Value)} {ks:List Int} (hp:ks.Perm ((ps.map Prod.fst).map (·.key))) (j:Nat) (hj:j<ks.length): ∃p∈ps,ks[j]=p.1.key:=by
 have:=hp.mem_iff.1 (List.getElem_mem hj);obtain⟨r,hr,e⟩:=List.mem_map.1 this;obtain⟨p,hp2,rfl⟩:=List.mem_map.1 hr;exact⟨p,hp2,e.symm⟩
def KFit (kd n:Int) (ps:List (Trow×Value)) (ks:List Int) (j:Nat):Prop:= ∀i,i<j-> ∀k,ks[i]? =some k-> ∀p∈ps,p.1.key=k->rowFits kd n p.1=true
theorem KFit.all {kd n:Int} {ps:List (Trow×Value)} {ks:List Int} (h:KFit kd n ps ks ks.length) (hp:ks.Perm ((ps.map Prod.fst).map (·.key))):(ps.map Prod.fst).all (rowFits kd n)=true:=by
 rw[List.all_eq_true];intro r hr;obtain⟨p,hp2,rfl⟩:=List.mem_map.1 hr;have hk:p.1.key∈ks:=hp.mem_iff.2 (List.mem_map_of_mem hr);obtain⟨i,hi,e⟩:=List.mem_iff_getElem.1 hk;exact h i hi p.1.key (by rw[List.getElem?_eq_getElem hi,e]) p hp2 rfl
theorem KFit.none {kd n:Int} {ps:List (Trow×Value)} {p:Trow×Value} (hp:p∈ps) (h:rowFits kd n p.1=false):(ps.map Prod.fst).all (rowFits kd n)=false:=by
 rw[<-Bool.not_eq_true,List.all_eq_true];intro ha;have:=ha p.1 (List.mem_map_of_mem hp);rw[h]at this
 cases this
theorem KFit.step {kd n:Int} {ps:List (Trow×Value)} {ks:List Int} {j:Nat} (hr:Rise (ps.map Prod.fst)) (h:KFit kd n ps ks j) {p:Trow×Value} (hp:p∈ps) (hk:ks[j]? =some p.1.key) (hf:rowFits kd n p.1=true):KFit kd n ps ks (j+1):=by
 intro i hi k hk2 q hq e;by_cases hij:i<j
 ·exact h i hij k hk2 q hq e
 ·obtain rfl:i=j:=by omega
  rw[hk]at hk2;have hn:=hr.keys;rw[List.map_map]at hn;rw[nodup_inj _ ps hn q hq p hp (e.trans (Option.some.inj hk2).symm)];exact hf
theorem Fits_c (u:ByteArray) (kd xo:Int) (xn dn:Int) (ai ax:Option Addr) (len capi xl capx:Nat) (P:Nat->Prop) (T B:Nat) (ps:List (Trow×Value)) (w:World) (h:TabAt w P T B ps) (hP: ∀b,P b->b<w.heap.size)
  (hr:Rise (ps.map Prod.fst)) (hl: ∀p∈ps,p.1.l.length<=16) (h64: ∀p∈ps,I64 p.1.key) (hn:ps.length<=1000):
  CB prog 75 #[.agg #[.string u,.int .u8 kd,.slice ai len capi,.int .u8 xo,.int .i64 xn,.slice ax xl capx,.int .i64 dn],px T] w (.bool (fitsB kd dn (ps.map Prod.fst))):=by
 have HR:Hd (∀R,R=fitsB kd dn (ps.map Prod.fst)->R=(statefulB kd&&(ps.map Prod.fst).all (rowFits kd dn))):=fun R e=>e;generalize hR:fitsB kd dn (ps.map Prod.fst)=R;have HF:Hd (R=(statefulB kd&&(ps.map Prod.fst).all (rowFits kd dn))):=HR.o R hR.symm;clear HR hR;have hN:Blk (w.alloc (.cells #[.string u,.int .u8 kd,.slice ai len capi,.int .u8 xo,.int .i64 xn,.slice ax xl capx,.int .i64 dn] 135)) w.heap.size 135 #[.string u,.int .u8 kd,.slice ai len capi,.int .u8 xo,.int .i64 xn,.slice ax xl capx,.int .i64 dn]:=Blk.new w _ _;have hb0:Below w.heap.size w (w.alloc (.cells #[.string u,.int .u8 kd,.slice ai len capi,.int .u8 xo,.int .i64 xn,.slice ax xl capx,.int .i64 dn] 135)):=br0.alloc le0 _;have HK:=Lh (Keys_c P T B ps _ (h.below hP hb0) hr h64 hn);have HT:=Lh h;have HP:=Lh hP;have HL:=Lh hl;have HRI:=Lh hr;have HN5:=Lh hn;clear h hP hr hl h64 hn;have x1:=hN.cell 1;have x6:=hN.cell 6;unfold px at*
 cases hst:statefulB kd
 ·have HS:=Lh hst;go_enter func75,ntmps75
  go_wp2_with (first|(go_at_call 73;refine(stateful_c kd _).mono ?_;rintro e w1 ⟨rfl,rfl⟩;rw[HS.o])|fail)
  go_ret;exact⟨by rw[HF.o,HS.o];rfl,hb0⟩
 ·have HS:=Lh hst;have HF2:Hd (R=(ps.map Prod.fst).all (rowFits kd dn)):=by show _=_;rw[HF.o,HS.o];rfl
  have hkd:kd=6\/kd=7:=by unfold statefulB at hst;simpa using hst
  clear hst HF;go_enter func75,ntmps75
  go_upto_region 4 with (first
   |(go_at_call 73;refine(stateful_c kd _).mono ?_;rintro e w1 ⟨rfl,rfl⟩;rw[HS.o])
   |(go_at_call 135;refine HK.o.mono ?_;rintro e W ⟨v,ks,rfl,hperm,hks,hbW⟩;obtain⟨av,cv,rfl⟩:=hks.form)
   |fail)
  generalize (w.alloc (.cells #[.string u,.int .u8 kd,.slice ai len capi,.int .u8 xo,.int .i64 xn,.slice ax xl capx,.int .i64 dn] 135))=W0 at*;have HN:=Lh (hN.below hbW hN.lt);have HB:=Lh (hb0.trans (hbW.mono hb0.size));have HKS:Hd (InsP W (fun b=>b<W.heap.size) ks (.slice av ks.length cv)):=hks.keep (fun b hb=>hb.2) (fun _ _=>rfl);have HPM:=Lh hperm;have hks5:ks.length<=1000:=by have:=hperm.length_eq;have:=HN5.o;simp at*;omega
  have HTW:=Lh (HT.o.below HP.o HB.o);have HPW:Hd (∀b,P b->b<W.heap.size):=fun b hb=>lt1 (HP.o b hb) HB.o.size;clear hN hb0 hbW hks hperm x1 x6 HK
  go_loopw [21] (fun q wr=> ∃j:Nat,q= .int .i64 (j:Int)/\j<=ks.length/\KFit kd dn ps ks j/\Below W.heap.size W wr) (fun q _=>ks.length-(intOf q).toNat)
  case atStart=>exact⟨0,rfl,ze0,fun i hi=>absurd hi (Nat.not_lt_zero _),Below.refl _ _⟩
  case round=>
   obtain⟨j,rfl,hj,hf,hb⟩:=hrel;by_cases hjl:j<ks.length
   ·have d0:decide ((j:Int)<(ks.length:Int))=true:=dt0 (by omega);obtain⟨g,c,hv,hc1,hc2,hg,hcell⟩:=HKS.o.at_ j hjl;obtain⟨p,hp,hpk⟩:=row_at HPM.o j hjl;simp only[vs0]at hv;obtain⟨rfl,_,rfl⟩:=hv;have k0:=(World.cell?_of_block (a:=⟨g,j,none⟩) (hb.block g hg)).trans hcell;rw[hpk]at k0;have HG:=Lh (Get_c P T B ps wr (HTW.o.below HPW.o hb) (fun b hb2=>lt1 (HPW.o b hb2) hb.size) HRI.o HL.o p hp);have HPK:Hd (ks[j]? =some p.1.key):=by show _=_;rw[List.getElem?_eq_getElem hjl,hpk]
    have HPP:=Lh hp;have HLP:=Lh (HL.o p hp);have HF:=Lh hf;have HBR:=Lh hb;have HC:=Lh hcell;obtain⟨⟨key,acc,l⟩,pv⟩:=p;dsimp only at HG HPK HLP k0;unfold px at HG;clear hcell hp hpk hf hb
    go_upto_region 8 with (first
     |(go_at_call 136;refine HG.o.mono ?_;rintro e w1 ⟨⟨a1,c1,rfl⟩,hb1⟩)
     |fail)
    have hbx:Below W.heap.size W (w1.alloc (.cells #[.int .i64 acc,.slice a1 l.length c1] 189)):=(HBR.o.trans (hb1.mono HBR.o.size)).alloc (by have:=HBR.o.size;have:=hb1.size;omega) _;have hNx:=HN.o.below hbx HN.o.lt;have x1:=hNx.cell 1;have x6:=hNx.cell 6;have hCx:Blk (w1.alloc (.cells #[.int .i64 acc,.slice a1 l.length c1] 189)) w1.heap.size 189 #[.int .i64 acc,.slice a1 l.length c1]:=Blk.new w1 _ _;have y0:=hCx.cell 0;have HBX:=Lh hbx;clear hb1 hbx hNx hCx;rcases hkd with rfl|rfl
    ·by_cases hz:0<l.length
     ·have d1:decide ((0:Int)<(l.length:Int))=true:=dt0 (by omega);have d2:decide (0<l.length)=true:=dt0 hz;have HZ:=Lh hz;clear hz
      go_wp2_with fail
      go_ret;exact⟨by rw[HF2.o,KFit.none HPP.o (by show rowFits 6 _ ⟨key,acc,l⟩=false;rw[rowFits6,dt0 HZ.o];rfl)];rfl,HB.o.trans (HBX.o.mono HB.o.size)⟩
     ·have d1:decide ((0:Int)<(l.length:Int))=false:=df0 (by omega);have d2:decide (0<l.length)=false:=df0 hz;have HZ:=Lh hz;clear hz
      go_wp2_with fail
      go_roundw
      case rel=>exact⟨j+1,by go_num,by omega,HF.o.step HRI.o HPP.o HPK.o (by show rowFits 6 _ ⟨key,acc,l⟩=true;rw[rowFits6,df0 HZ.o];rfl),HBX.o⟩
      case measure=>simp[intOf];omega
    ·by_cases ha:acc=0
     ·have d1:(acc !=0)=false:=by simpa using ha
      by_cases h1:l.length<1
      ·have d2:decide ((l.length:Int)<1)=true:=dt0 (by omega);have d3:decide (l.length<1)=true:=dt0 h1;have HZ:=Lh h1;clear h1 ha
       go_wp2_with fail
       go_ret;exact⟨by rw[HF2.o,KFit.none HPP.o (by show rowFits 7 _ ⟨key,acc,l⟩=false;rw[rowFits7,dt0 HZ.o,Bool.true_or,Bool.or_true];rfl)];rfl,HB.o.trans (HBX.o.mono HB.o.size)⟩
      ·have d2:decide ((l.length:Int)<1)=false:=df0 (by omega);have d3:decide (l.length<1)=false:=df0 h1;by_cases h2:dn<=(l.length:Int)
       ·have d4:decide (dn<=(l.length:Int))=true:=dt0 h2;have HZ:=Lh h2;clear h1 h2 ha
        go_wp2_with fail
        go_ret;exact⟨by rw[HF2.o,KFit.none HPP.o (by show rowFits 7 _ ⟨key,acc,l⟩=false;rw[rowFits7,dt0 HZ.o,Bool.or_true,Bool.or_true];rfl)];rfl,HB.o.trans (HBX.o.mono HB.o.size)⟩
       ·have d4:decide (dn<=(l.length:Int))=false:=df0 h2;have HZ:=Lh h2;have HZ1:=Lh h1;have HA:=Lh ha;clear h1 h2 ha
        go_wp2_with fail
        go_roundw
        case rel=>exact⟨j+1,by go_num,by omega,HF.o.step HRI.o HPP.o HPK.o (by show rowFits 7 _ ⟨key,acc,l⟩=true;rw[rowFits7,df0 HZ.o,df0 HZ1.o,HA.o];rfl),HBX.o⟩
        case measure=>simp[intOf];omega
     ·have d1:(acc !=0)=true:=by simpa using ha
      have HA:=Lh ha;clear ha
      go_wp2_with fail
      go_ret;exact⟨by rw[HF2.o,KFit.none HPP.o (by show rowFits 7 _ ⟨key,acc,l⟩=false;rw[rowFits7,show(acc !=0)=true by simpa using HA.o,Bool.true_or];rfl)];rfl,HB.o.trans (HBX.o.mono HB.o.size)⟩
   ·obtain rfl:j=ks.length:=by omega
    have d0:decide ((ks.length:Int)<(ks.length:Int))=false:=df0 (by omega)
    go_wp2_with fail
    go_ret;exact⟨by rw[HF2.o,hf.all HPM.o];rfl,HB.o.trans (hb.mono HB.o.size)⟩
section
open Go.RowKit Go.ChangeShapes Go.WideShapes
def StaRd (w:World) (P:Nat->Prop) (v:Value) (l:List Sta):Prop:=
 ∃a cap,v= .slice a l.length cap/\l.length<=cap/\cap<=maxLen/\(l.length=0\/ ∃b off,a=some ⟨b,off,none⟩/\P b/\ ∀k (h:k<l.length),w.cell? ⟨b,off+k*2,none⟩=some (.string l[k].uid)/\w.cell? ⟨b,off+k*2+1,none⟩=some (.string l[k].bytes))
namespace StaRd
variable {w w':World} {P Q:Nat->Prop} {v:Value} {l:List Sta}
theorem nil (w:World) (P:Nat->Prop):StaRd w P (.slice none 0 0) []:=⟨none,0,rfl,le0,ze0,.inl rfl⟩
theorem keep (h:StaRd w P v l) (hPQ: ∀b,P b->Q b) (hk: ∀b,P b->w'.heap[b]? =w.heap[b]?):StaRd w' Q v l:=by
 obtain⟨a,cap,hv,h1,h2,h3⟩:=h;refine⟨a,cap,hv,h1,h2,h3.imp id ?_⟩;rintro ⟨b,off,ha,hb,hc⟩;exact⟨b,off,ha,hPQ b hb,fun k hk2=>⟨(World.cell?_of_block (hk b hb)).trans (hc k hk2).1,(World.cell?_of_block (hk b hb)).trans (hc k hk2).2⟩⟩
theorem slice (h:StaRd w P v l): ∃a cap,v= .slice a l.length cap/\l.length<=cap/\cap<=maxLen:=by
 obtain⟨a,cap,hv,h1,h2,h3⟩:=h;exact⟨a,cap,hv,h1,h2⟩
theorem at_ (h:StaRd w P v l) (k:Nat) (hk:k<l.length): ∃b off cap,v= .slice (some ⟨b,off,none⟩) l.length cap/\P b/\w.cell? ⟨b,off+k*2,none⟩=some (.string l[k].uid)/\w.cell? ⟨b,off+k*2+1,none⟩=some (.string l[k].bytes):=by
 obtain⟨a,cap,hv,h1,h2,h3⟩:=h;rcases h3 with h3|⟨b,off,rfl,hb,hc⟩
 ·omega
 ·exact⟨b,off,cap,hv,hb,hc k hk⟩
end StaRd
def svC (x:Sv) (nv sv:Value):Array Value:=#[.int .i64 x.n,.int .i64 x.cut,.int .i64 x.job.par,nv,sv]
def SvIn (w:World) (P:Nat->Prop) (v:Value) (x:Sv):Prop:= ∃nv sv,v= .agg (svC x nv sv)/\NodesIn w P x.job.nodes nv/\StaRd w P sv x.states
theorem SvIn.keep {w w':World} {P Q:Nat->Prop} {v:Value} {x:Sv} (h:SvIn w P v x) (hPQ: ∀b,P b->Q b) (hk: ∀b,P b->w'.heap[b]? =w.heap[b]?):SvIn w' Q v x:=let ⟨nv,sv,h1,h2,h3⟩:=h;⟨nv,sv,h1,h2.keep hPQ hk,h3.keep hPQ hk⟩
theorem cellsState:prog.cellsOf 72=2:=by kernel_rfl
section
variable {H:Type} {enc:TypeId×Value->H} {w:World}
theorem open_state (m:Nat) (c0 c1:Value) (y:DataW H×List MemPlace) (h:DataW.trod enc prog w 0 (fun _=>true) true m 72 [c0,c1]=some y):
  ∃x:Sta,c0= .string x.uid/\c1= .string x.bytes:=by
 obtain⟨xs,m1,hm2,_,_,hxl,hfs⟩:=DataW.trod_struct underlying72 h;have q0:=hfs 0 _ rfl;have q1:=hfs 1 _ rfl;have hxl:xs.length=2:=by assumption
 obtain⟨y0,y1,rfl⟩: ∃y0 y1,xs=[y0,y1]:=by
  match xs,hxl with
  | [y0,y1],_=>exact⟨y0,y1,rfl⟩
 have e0:DataW.trod enc prog w 0 (fun _=>true) true m1 9 [c0]=some y0:=q0;have e1:DataW.trod enc prog w 0 (fun _=>true) true m1 9 [c1]=some y1:=q1;obtain⟨s0,h0,_,w0⟩:=DataW.trod_string underlying9 e0;obtain⟨s1,h1,_,w1⟩:=DataW.trod_string underlying9 e1;simp only[List.cons.injEq,and_true]at h0 h1;exact⟨⟨s0,s1⟩,h0,h1⟩
theorem open_stateRow (fuel:Nat) (sv:Value) (x:DataW H×List MemPlace) (h:DataW.trod enc prog w 0 (fun _=>true) true fuel 25 [sv]=some x):
  ∃l:List Sta,StaRd w (· <w.heap.size) sv l:=by
 rcases DataW.trod_slice underlying25 h with ⟨h0,_⟩|⟨a,len,cap,elems,rest,n,hf,hcs,hx,hb,hl,hm,hlen,hel,_,_⟩
 ·simp only[List.cons.injEq,and_true]at h0;subst h0;exact⟨[],StaRd.nil _ _⟩
 ·simp only[List.cons.injEq,and_true]at hcs;subst hcs;rw[cellsState]at hel;have hex: ∀i,i<len-> ∃y:Sta,w.cell? (a.add (i*2))=some (.string y.uid)/\w.cell? (a.add (i*2+1))=some (.string y.bytes):=by
   intro i hi;have hi2:i<elems.length:=by omega
   have h1:=hel i hi;rw[List.getElem?_eq_getElem hi2]at h1;obtain⟨cs,h2,h3⟩:=Option.bind_eq_some_iff.1 h1;obtain⟨_,hcl,hcell⟩:=World.cells?_some h2
   match cs,hcl with
   | [c0,c1],_=>
    obtain⟨y,rfl,rfl⟩:=open_state _ c0 c1 _ h3;have g0:=hcell 0 (by omega);have g1:=hcell 1 (by omega);rw[Go.Deep.add_add]at g0 g1;exact⟨y,by simpa using g0,by simpa using g1⟩
  by_cases h0:len=0
  ·subst h0;exact⟨[],⟨_,cap,rfl,ze0,hm,.inl rfl⟩⟩
  ·obtain⟨Y,hY⟩:= @Go.Deep.choose_lt Sta ⟨⟨.empty,.empty⟩⟩ len _ hex;have h00:w.cell? a=some (.string (Y 0).uid):=by
    have:=(hY 0 (by omega)).1;simpa[Addr.add]using this
   obtain⟨b,off,rfl⟩: ∃b off,a=⟨b,off,none⟩:=⟨_,_,add_spot h00⟩;have hlt:b<w.heap.size:=World.block_lt_of_cell? _ _ h00;refine⟨(List.range len).map Y,⟨some ⟨b,off,none⟩,cap,by simp,by simpa using hl,hm,.inr ⟨b,off,rfl,hlt,fun j hj=>?_⟩⟩⟩;have hj':j<len:=by simpa using hj
   obtain⟨hc0,hc1⟩:=hY j hj';have hg:((List.range len).map Y)[j]'hj=Y j:=by simp
   rw[hg];rw[addr_add]at hc0 hc1;exact⟨hc0,by rw[Nat.add_assoc];exact hc1⟩
theorem open_save {r:Reach} {b0:Nat} {v:Value} {d:DataW H} {p:List MemPlace} (hv:Value.okWide prog w r b0 27 v) (h:DataW.Trod enc prog w 0 (fun _=>true) true 27 v d p):
  ∃x:Sv,SvIn w (· <w.heap.size) v x/\x.Ok:=by
 obtain⟨cs,rfl,hsz⟩:=okWide_struct underlying27 hv;have hsz:cs.size=5:=hsz.trans (by kernel_rfl);obtain⟨c0,c1,c2,c3,c4,rfl⟩: ∃c0 c1 c2 c3 c4,cs=#[c0,c1,c2,c3,c4]:=by
  obtain⟨cl⟩:=cs
  match cl,hsz with
  | [c0,c1,c2,c3,c4],_=>exact⟨c0,c1,c2,c3,c4,rfl⟩
 obtain⟨fuel,hf⟩:=h;obtain⟨xs,m1,hm2,_,_,hxl,hfs⟩:=DataW.trod_struct underlying27 hf;have q0:=hfs 0 _ rfl;have q1:=hfs 1 _ rfl;have q2:=hfs 2 _ rfl;have q3:=hfs 3 _ rfl;have hxl:xs.length=4:=by assumption
 obtain⟨y0,y1,y2,y3,rfl⟩: ∃y0 y1 y2 y3,xs=[y0,y1,y2,y3]:=by
  match xs,hxl with
  | [y0,y1,y2,y3],_=>exact⟨y0,y1,y2,y3,rfl⟩
 have e0:DataW.trod enc prog w 0 (fun _=>true) true m1 2 [c0]=some y0:=q0;have e1:DataW.trod enc prog w 0 (fun _=>true) true m1 2 [c1]=some y1:=q1;have e2:DataW.trod enc prog w 0 (fun _=>true) true m1 24 [c2,c3]=some y2:=q2;have e3:DataW.trod enc prog w 0 (fun _=>true) true m1 25 [c4]=some y3:=q3;obtain⟨k0,h0,_,w0⟩:=DataW.trod_int underlying2 e0;obtain⟨k1,h1,_,w1⟩:=DataW.trod_int underlying2 e1;obtain⟨zs,m2,_,_,_,hzl,hgs⟩:=DataW.trod_struct underlying24 e2;have p0:=hgs 0 _ rfl;have p1:=hgs 1 _ rfl;have hzl:zs.length=2:=by assumption
 obtain⟨z0,z1,rfl⟩: ∃z0 z1,zs=[z0,z1]:=by
  match zs,hzl with
  | [z0,z1],_=>exact⟨z0,z1,rfl⟩
 have f0:DataW.trod enc prog w 0 (fun _=>true) true m2 3 [c2]=some z0:=p0;have f1:DataW.trod enc prog w 0 (fun _=>true) true m2 22 [c3]=some z1:=p1;obtain⟨k2,h2,_,w2⟩:=DataW.trod_int underlying3 f0;obtain⟨l,hl1,hl2⟩:=open_nodes m2 c3 z1 f1;obtain⟨st,hst⟩:=open_stateRow m1 c4 y3 e3;simp only[List.cons.injEq,and_true]at h0 h1 h2;subst h0 h1 h2;have r2:=wf_i64r w2;obtain⟨_,_,_,hs1,hs2⟩:=hst.slice;exact⟨⟨k0,k1,⟨k2,l⟩,st⟩,⟨c3,c4,rfl,NodesIn.of_at hl1,hst⟩,wf_i64r w0,wf_i64r w1,⟨r2.1,r2.2,hl2⟩,by unfold maxLen at hs2;show st.length<=_;omega⟩
end
end
