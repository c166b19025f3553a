/- Parts. -/
import Derived.Lib.Bytealg
import Derived.Lib.Walk
import Derived.Test.YtgbfdcmkbblodaaGreatDoorVW7
namespace Go.Proofs.YtgbfdcmkbblodaaGreatDoor
open Go.RowKit
set_option linter.unusedVariables false
set_option linter.unusedSimpArgs false
set_option maxRecDepth 100000
set_option maxHeartbeats 16000000
open Tryz
def signsS:ByteArray:={data:=#[43,45,42,47,37,40,41,38,124,33,61,60]}
theorem slIndexByte_c (s:ByteArray) (c:Int) (w:World):
  Calls prog 262 #[.string s,.int .u8 c] w fun e w'=>e= .returned (.int .i64 (Lib.indexByte s.data.toList c.toNat.toUInt8))/\w=w':=by
 go_enter func262,ntmps262;go_wp2;rw[run_callFunc_extern func285 (by kernel_rfl) (by kernel_rfl) (by kernel_rfl) (e:=Extern.BytealgIndexByte.indexByte) (by kernel_rfl),Lib.run_indexByteString];simp only[Result.andThen];rw[Oper.upon_value];go_wp2;go_ret;exact⟨rfl,rfl⟩
theorem IndexByte_c (s:ByteArray) (c:Int) (w:World):
  Calls prog 287 #[.string s,.int .u8 c] w fun e w'=>e= .returned (.int .i64 (Lib.indexByte s.data.toList c.toNat.toUInt8))/\w=w':=by
 go_enter func287,ntmps287
 go_wp2_with (go_at_call 262;refine(slIndexByte_c _ _ _).mono ?_;rintro e w' ⟨rfl,rfl⟩)
 go_ret;exact⟨rfl,rfl⟩
theorem IndexRune_a (r:Int) (w:World) (h0:0<=r) (h1:r<128):
  Calls prog 266 #[.string signsS,.int .i32 r] w fun e w'=>e= .returned (.int .i64 (Lib.indexByte signsS.data.toList r.toNat.toUInt8))/\w=w':=by
 go_enter func266,ntmps266
 go_wp2_with (go_at_call 287;refine(IndexByte_c _ _ _).mono ?_;rintro e w' ⟨rfl,rfl⟩)
 go_ret;exact⟨rfl,rfl⟩
theorem encode_last (r:Int) (h0:128<=r) (hv:Utf8.valid r=true):((Utf8.encode r).size=2\/(Utf8.encode r).size=3\/(Utf8.encode r).size=4)/\ ∀n,n+1=(Utf8.encode r).size-> ∀h:n<(Utf8.encode r).size,128<=((Utf8.encode r)[n]'h).toNat:=by
 obtain⟨h1,h2,h3⟩:=encode_facts r hv h0;refine⟨by omega,fun n hn h=>?_⟩;obtain rfl:n=(Utf8.encode r).size-1:=by omega
 exact h3 h
theorem noByte (c:UInt8) (k:Nat) (h:128<=c.toNat):Lib.indexByte (signsS.extract k 12).data.toList c= -1:=by
 rw[<-Lib.firstIdx_eq];exact firstIdx_ascii signsS k 12 c (by decide) h
theorem IB_neg (k:Nat) (c:Int) (w:World) (h:128<=c) (h2:c<256):
  Calls prog 287 #[.string (signsS.extract k 12),.int .u8 c] w fun e w'=>e= .returned (.int .i64 (-1))/\w'=w:=
 (IndexByte_c _ _ _).mono fun _ _ ⟨he,hw⟩=>⟨by
  rw[he,noByte]
  show 128<=(UInt8.ofNat c.toNat).toNat
  rw[UInt8.toNat_ofNat']
  omega,hw.symm⟩
theorem IndexRune_d (r:Int) (w:World) (h0:128<=r) (h2:r<=1114111) (h3:r<55296\/57343<r) (h4:(r==65533)=false) (k c:Nat) (d:Int) (hk:k=1/\c=45/\d=45\/k=2/\c=42/\d=42\/k=3/\c=47/\d=47) (e1:(Utf8.encode r).size=k+1) (hl:k<(Utf8.encode r).size)
  (hb:128<=((Utf8.encode r)[k]'hl).toNat):
  CB prog 266 #[.string signsS,.int .i32 r] w (.int .i64 (-1)):=by
 have hq: ¬r<128:=by omega
 have hp:0<=r:=by omega
 have hb2:=((Utf8.encode r)[k]'hl).toNat_lt;have hss:signsS.size=12:=rfl;have hs1: ∀h,(signsS[k]'h).toNat=c:=by rcases hk with ⟨rfl,rfl,rfl⟩|⟨rfl,rfl,rfl⟩|⟨rfl,rfl,rfl⟩<;>exact fun _=>rfl
 have hne:(d !=(((Utf8.encode r)[k]'hl).toNat:Int))=true:=by rw[bne_iff_ne];omega
 rcases h3 with h3|h3;rotate_left;have h5: ¬r<55296:=by omega
 all_goals rcases hk with ⟨rfl,rfl,rfl⟩|⟨rfl,rfl,rfl⟩|⟨rfl,rfl,rfl⟩
 all_goals
  simp only[Nat.reduceAdd]at e1;go_enter func266,ntmps266;go_wp2
  go_step3
  go_wp2;refine wp_loop_rounds 1 ?_;rw[rounds_succ];go_wp2
  go_step3
  go_wp2
  go_quiet (fail)
  have hbw:=below_drewN (Below.refl w.heap.size w) nq;generalize w.drewN nq=w1 at*;go_wp2
  go_quiet ((go_at_call 287;exact Calls.quiet_of_same (IB_neg _ _ _ (by omega) (by omega))))
  go_wp2;simp only[Exit.noGoto_ret,Exit.inBlock,Exit.then];go_ret;exact⟨rfl,below_drewN hbw _⟩
theorem IndexRune_c0 (r:Int) (w:World) (h0:r<0):
  CB prog 266 #[.string signsS,.int .i32 r] w (.int .i64 (-1)):=by
 have h2: ¬0<=r:=by omega
 have h3:(r==65533)=false:=by simp;omega
 have h4:r<=57343:=by omega
 go_enter func266,ntmps266;go_wp2;go_ret;exact⟨rfl,Below.refl _ _⟩
theorem IndexRune_c1 (r:Int) (w:World) (h0:128<=r) (h1:1114111<r\/55296<=r/\r<=57343):
  CB prog 266 #[.string signsS,.int .i32 r] w (.int .i64 (-1)):=by
 obtain⟨h2,h4,h5⟩:0<=r/\ ¬r<128/\ ¬r<55296:=by and_intros<;>(omega)
 have h3:(r==65533)=false:=by simp;omega
 rcases h1 with h1|⟨h1,h6⟩
 ·have h7:57343<r:=by omega
  go_enter func266,ntmps266;go_wp2;go_ret;exact⟨rfl,Below.refl _ _⟩
 ·go_enter func266,ntmps266;go_wp2;go_ret;exact⟨rfl,Below.refl _ _⟩
theorem signs_decode (pos:Nat) (h:pos<signsS.size):((Utf8.decode signsS pos).1==65533)=false:=by
 have h12:pos<12:=h;have hall: ∀k,k<12->((Utf8.decode signsS k).1==65533)=false:=by decide+kernel
 exact hall pos h12
theorem below_iter {B:Nat} {a w:World} (h:Below B a w) (hB:B<=w.heap.size) (s:ByteArray) (pos:Nat):Below B a (w.iter s pos):=h.alloc hB _
theorem IndexRune_b (w:World):
  CB prog 266 #[.string signsS,.int .i32 65533] w (.int .i64 (-1)):=by
 go_enter func266,ntmps266;go_wp2
 go_loopw [5] (fun _ wr=> ∃(pos:Nat),wr=w.iter signsS pos) (fun _ wr=>signsS.size-wr.iterPos w.heap.size)
 case atStart=>exact⟨0,rfl⟩
 case round=>
  obtain⟨pos,rfl⟩:=hrel;by_cases hp:pos<signsS.size
  ·have hnx: ∀ty,(Instr.next (.pointer (some ⟨w.heap.size,0,none⟩)) true ty).run prog (w.iter signsS pos)=_:=fun ty=>run_next_any w signsS pos ty hp;have hwd:=Lib.decode_width_pos signsS pos hp;have hne:(((Utf8.decode signsS pos).1:Int)==65533)=false:=by have:=signs_decode pos hp;simp at this⊢;omega
   go_wp2;go_roundw
   case rel=>exact⟨_,rfl⟩
   case measure=>simp;omega
  ·have hnx: ∀ty,(Instr.next (.pointer (some ⟨w.heap.size,0,none⟩)) true ty).run prog (w.iter signsS pos)=_:=fun ty=>run_next_end w signsS pos ty hp;go_wp2;go_ret;exact⟨rfl,below_iter br0 le0 _ _⟩
theorem sign_index (r:Int) (h0:0<=r) (h1:r<128):decide (0<=Lib.indexByte signsS.data.toList r.toNat.toUInt8)=signB r:=by
 obtain⟨n,rfl⟩:=Int.eq_ofNat_of_zero_le h0;have hn:n<128:=by omega
 have hall: ∀k,k<128->decide (0<=Lib.indexByte signsS.data.toList ((k:Nat):Int).toNat.toUInt8)=signB ((k:Nat):Int):=by decide+kernel
 exact hall n hn
theorem IndexRune_any (r:Int) (w:World):
  Calls prog 266 #[.string signsS,.int .i32 r] w fun e w'=> ∃k,e= .returned (.int .i64 k)/\decide (0<=k)=signB r/\Below w.heap.size w w':=by
 have hneg: ∀k:Int,k= -1->(r<0\/128<=r)->decide (0<=k)=signB r:=by
  intro k hk hr;subst hk;unfold signB;rw[Bool.eq_iff_iff];simp;omega
 by_cases h0:r<0
 ·exact(IndexRune_c0 r w h0).mono fun e w' ⟨he,hw⟩=>⟨_,he,hneg _ rfl (.inl h0),hw⟩
 by_cases h1:r<128
 ·exact(IndexRune_a r w (by omega) h1).mono fun e w' ⟨he,hw⟩=>⟨_,he,sign_index r (by omega) h1,by subst hw;exact Below.refl _ _⟩
 by_cases h2:1114111<r\/55296<=r/\r<=57343
 ·exact(IndexRune_c1 r w (by omega) h2).mono fun e w' ⟨he,hw⟩=>⟨_,he,hneg _ rfl (.inr (by omega)),hw⟩
 by_cases h3:r=65533
 ·subst h3;exact(IndexRune_b w).mono fun e w' ⟨he,hw⟩=>⟨_,he,hneg _ rfl (.inr (by omega)),hw⟩
 have h4:(r==65533)=false:=by simpa using h3
 have hv:Utf8.valid r=true:=by rw[validRune_eq];unfold validRune;simp;omega
 obtain⟨e1,e2⟩:=encode_last r (by omega) hv;have fin:(CB prog 266 #[.string signsS,.int .i32 r] w (.int .i64 (-1))):=by
  rcases e1 with e1|e1|e1
  ·exact IndexRune_d r w (by omega) (by omega) (by omega) h4 1 45 45 (.inl ⟨rfl,rfl,rfl⟩) e1 (by omega) (e2 1 (by omega) _)
  ·exact IndexRune_d r w (by omega) (by omega) (by omega) h4 2 42 42 (.inr (.inl ⟨rfl,rfl,rfl⟩)) e1 (by omega) (e2 2 (by omega) _)
  ·exact IndexRune_d r w (by omega) (by omega) (by omega) h4 3 47 47 (.inr (.inr ⟨rfl,rfl,rfl⟩)) e1 (by omega) (e2 3 (by omega) _)
 exact fin.mono fun e w' ⟨he,hw⟩=>⟨_,he,hneg _ rfl (.inr (by omega)),hw⟩
theorem ContainsRune_c (r:Int) (w:World):
  CB prog 235 #[.string signsS,.int .i32 r] w (.bool (signB r)):=by
 go_enter func235,ntmps235
 go_wp2_with (go_at_call 266;refine(IndexRune_any _ _).mono ?_;rintro e w' ⟨k,rfl,hk,hb⟩;have HK:=Lh hk;clear hk)
 go_ret;exact⟨ret_bool (by rw[<-HK.o]),hb⟩
theorem kind_c (r:Int) (w:World):
  CB prog 242 #[.int .i32 r] w (.int .u8 (kindN r)):=by
 have hz:(Utf8.encode r).size<=maxLen:=by have:=encode_size r;unfold maxLen;omega
 by_cases h0:48<=r/\r<=57
 ·obtain⟨h1,h2⟩:=h0;go_enter func242,ntmps242;go_wp2;go_ret;exact⟨ret_int (by unfold kindN;rw[if_pos ⟨h1,h2⟩]),Below.refl _ _⟩
 ·cases hs:signB r
  ·cases hn:nameB (Utf8.encode r)
   all_goals
    have HS:=Lh hs;have HN:=Lh hn;have H0:=Lh h0;clear hs hn h0;go_enter func242,ntmps242
    go_wp2_with (first
     |(go_at_call 235;refine(ContainsRune_c _ _).mono ?_;rintro e w1 ⟨rfl,hb1⟩;rw[HS.o])
     |(go_at_call 156;refine(Name_c _ _ hz).mono ?_;rintro e w2 ⟨rfl,_,rfl⟩;rw[HN.o]))
    all_goals first|(exfalso;have:=H0.o;omega)|skip
    all_goals
     go_ret;exact⟨ret_int (by unfold kindN;rw[if_neg H0.o,HS.o,HN.o];rfl),below_iter hb1 hb1.size _ _⟩
  ·have HS:=Lh hs;have H0:=Lh h0;clear hs h0;go_enter func242,ntmps242
   go_wp2_with (go_at_call 235;refine(ContainsRune_c _ _).mono ?_;rintro e w1 ⟨rfl,hb1⟩;rw[HS.o])
   all_goals first|(exfalso;have:=H0.o;omega)|skip
   all_goals
    go_ret;exact⟨ret_int (by unfold kindN;rw[if_neg H0.o,HS.o];rfl),hb1⟩
def numRes (o:Option Int):Ending:= .returned (.tuple #[.int .i64 (o.getD 0),.bool o.isSome])
theorem number_c (s:ByteArray) (w:World) (hs: ∀r∈runes s,48<=r/\r<=57):
  Calls prog 240 #[.string s] w fun e w'=>e=numRes (numGo 0 (runes s))/\Below w.heap.size w w':=by
 go_enter func240,ntmps240;go_wp2
 go_loopw [4] (fun n wr=> ∃(pos:Nat) (k:Int),wr=w.iter s pos/\n= .int .i64 k/\0<=k/\k<=9223372036854775807/\(∀r∈runesAt s pos,48<=r/\r<=57)/\numGo k (runesAt s pos)=numGo 0 (runes s)) (fun _ wr=>s.size-wr.iterPos w.heap.size)
 case atStart=>exact⟨0,0,rfl,rfl,by omega,by omega,hs,rfl⟩
 case round=>
  obtain⟨pos,k,rfl,rfl,hk0,hk1,hd,hg⟩:=hrel;by_cases hp:pos<s.size
  ·have hnx: ∀ty,(Instr.next (.pointer (some ⟨w.heap.size,0,none⟩)) true ty).run prog (w.iter s pos)=_:=fun ty=>run_next_any w s pos ty hp;have hwd:=Lib.decode_width_pos s pos hp;rw[runesAt_step s pos hp]at hg hd;simp only[numGo]at hg;have hr:=hd _ List.mem_cons_self;have HD:=Lh (fun r (h:r∈runesAt s (pos+(Utf8.decode s pos).2))=>hd r (List.mem_cons_of_mem _ h));generalize hR:((Utf8.decode s pos).1:Int)=R at*;have HG:=Lh hg;clear hg hd hs;obtain⟨hr1,hr2⟩:=hr;have hi:=IntWalk.i64_in (10*k+(R-48));go_wp2
   ·go_ret2;exact⟨by rw[<-HG.o,if_pos (by assumption)];rfl,below_iter br0 le0 _ _⟩
   ·have hle:k<=(9223372036854775807-(R-48))/10:=by assumption
    go_roundw
    case rel=>exact⟨_,_,rfl,rfl,by omega,by omega,HD.o,by rw[<-HG.o,if_neg (by omega)]⟩
    case measure=>simp;omega
  ·have hnx: ∀ty,(Instr.next (.pointer (some ⟨w.heap.size,0,none⟩)) true ty).run prog (w.iter s pos)=_:=fun ty=>run_next_end w s pos ty hp;rw[runesAt_end s pos hp]at hg;simp only[numGo]at hg;have HG:=Lh hg;clear hg;go_wp2;go_ret2;exact⟨by rw[<-HG.o];rfl,below_iter br0 le0 _ _⟩
theorem goes_c (k:Int) (tx:ByteArray) (n a r:Int) (w:World):
  CB prog 241 #[.agg #[.int .u8 k,.string tx,.int .i64 n,.int .i64 a],.int .i32 r] w (.bool (goesB k tx r)):=by
 by_cases h3:k=3
 ·subst h3;go_enter func241,ntmps241;go_wp2
  all_goals
   go_ret;exact⟨ret_bool (by unfold goesB;rw[if_pos rfl,Bool.eq_iff_iff];simp[*]),br0.alloc le0 _⟩
 ·have h3':(k==3)=false:=by simpa using h3
  have H3:=Lh h3;clear h3;by_cases h0:k=0
  ·subst h0;go_enter func241,ntmps241;go_wp2
   go_quiet (fail)
   go_wp2;go_ret;exact⟨ret_bool (by unfold goesB;rw[if_neg H3.o];rfl),below_drewN (br0.alloc le0 _) _⟩
  ·have h0':(k !=0)=true:=by simpa using h0
   have H0:=Lh h0;clear h0;go_enter func241,ntmps241;go_wp2
   go_region_with (go_at_call 242;refine(kind_c _ _).mono ?_;rintro e w1 ⟨rfl,hb1⟩;have hc1:=hb1.cell (p:=⟨w.heap.size,0,none⟩) (by simp))
   all_goals
    go_wp2;go_ret;exact⟨ret_bool (by unfold goesB;rw[if_neg H3.o,Bool.eq_iff_iff];simp[H0.o]),((br0.alloc le0 _).drew.trans (hb1.mono (by simp)))⟩
theorem info_tok:(prog.info? 301).map (fun i=>(i.zero,i.size,i.bytes))=some (some Tok.zero.agg,4,40):=by kernel_rfl
structure Held (w:World) (Bt Bo base:Nat) (t:Tok) (v:Value) (out:List Tok):Prop where
 tok:Blk w Bt 301 #[.int .u8 t.kind,.string t.text,.int .i64 t.n,.int .i64 t.at_]
 row:Blk w Bo 276 #[v]
 own:w.ownsRow base 301 4 v out.length (toksCells out)
theorem Held.lt1 {w:World} {Bt Bo base:Nat} {t:Tok} {v:Value} {out:List Tok} (h:Held w Bt Bo base t v out):Bt<w.heap.size:=h.tok.lt
theorem Held.zero {w:World} {Bt Bo base:Nat} {t:Tok} {v:Value} {out:List Tok} (h:Held w Bt Bo base t v out) (h1:Bt<base) (h3:Bt≠Bo):
  Held ((((w.setCell ⟨Bt,0,none⟩ (.int .u8 0)).setCell ⟨Bt,1,none⟩ (.string {data:=#[]})).setCell ⟨Bt,2,none⟩ (.int .i64 0)).setCell ⟨Bt,3,none⟩ (.int .i64 0)) Bt Bo base Tok.zero v out/\
   Fr (fun k=>k=Bt\/k=Bo\/base<=k) w ((((w.setCell ⟨Bt,0,none⟩ (.int .u8 0)).setCell ⟨Bt,1,none⟩ (.string {data:=#[]})).setCell ⟨Bt,2,none⟩ (.int .i64 0)).setCell ⟨Bt,3,none⟩ (.int .i64 0)):=by
 refine⟨⟨(((h.tok.set 0 _).set 1 _).set 2 _).set 3 _,(((h.row.other (p:=⟨Bt,0,none⟩) (Ne.symm h3) _).other (p:=⟨Bt,1,none⟩) (Ne.symm h3) _).other (p:=⟨Bt,2,none⟩) (Ne.symm h3) _).other (p:=⟨Bt,3,none⟩) (Ne.symm h3) _,?_⟩,?_⟩
 ·exact ownsRow_setCell_below (ownsRow_setCell_below (ownsRow_setCell_below (ownsRow_setCell_below h.own (a:=⟨Bt,0,none⟩) h1 _) (a:=⟨Bt,1,none⟩) h1 _) (a:=⟨Bt,2,none⟩) h1 _) (a:=⟨Bt,3,none⟩) h1 _
 ·exact((((Fr.refl _ _).setCell (p:=⟨Bt,0,none⟩) (.inl (.inl rfl)) _).setCell (p:=⟨Bt,1,none⟩) (.inl (.inl rfl)) _).setCell (p:=⟨Bt,2,none⟩) (.inl (.inl rfl)) _).setCell (p:=⟨Bt,3,none⟩) (.inl (.inl rfl)) _
theorem Held.appended {W w3:World} {o:Obj} {Bt Bo base:Nat} {t:Tok} {v v':Value} {out:List Tok} (h:Held W Bt Bo base t v out) (h1:Bt<base) (h2:Bo<base) (h3:Bt≠Bo)
  (hown:w3.ownsRow base 301 4 v' (out.length+1) (toksCells out++t.cells)) (hg:(W.alloc o).grownBy w3 v.ownBlock):
  Held (w3.setCell ⟨Bo,0,none⟩ v') Bt Bo base t v' (out++ [t])/\Fr (fun k=>k=Bt\/k=Bo\/base<=k) W (w3.setCell ⟨Bo,0,none⟩ v')/\Blk w3 Bo 276 #[v]/\Blk w3 Bt 301 #[.int .u8 t.kind,.string t.text,.int .i64 t.n,.int .i64 t.at_]:=by
 have hr: ∀k,v.ownBlock=some k->base<=k:=fun k hk=>(h.own.lt k hk).1;have hBo:Blk w3 Bo 276 #[v]:=(h.row.alloc o).grown hg (fun e=>by have:=hr Bo e.symm;omega);have hBt:=(h.tok.alloc o).grown hg (fun e=>by have:=hr Bt e.symm;omega);refine⟨⟨hBt.other (p:=⟨Bo,0,none⟩) h3 _,hBo.set 0 v',?_⟩,?_,hBo,hBt⟩
 ·rw[la0,toksCells_snoc];exact ownsRow_setCell_below hown (a:=⟨Bo,0,none⟩) h2 _
 ·exact((((Fr.refl _ W).alloc o).grown hg (fun k hk=> .inl (.inr (.inr (hr k hk)))))).setCell (p:=⟨Bo,0,none⟩) (.inl (.inr (.inl rfl))) _
theorem cell_four_new (w:World) (a b c d:Value) (t:TypeId): ∀j u,[a,b,c,d][j]? =some u->(w.alloc (.cells #[a,b,c,d] t)).cell? ((⟨w.heap.size,0,none⟩:Addr).add j)=some u:=by
 intro j u hj;have hj4:j<4:=(List.getElem?_eq_some_iff.1 hj).1;rw[Addr.add_lit,Nat.zero_add,(Blk.new w #[a,b,c,d] t).cell j];simpa using hj
theorem ends_0 (Bt Bo base:Nat) (t:Tok) (v:Value) (out:List Tok) (w:World) (h:Held w Bt Bo base t v out) (hk:t.kind=0) (h1:Bt<base) (h3:Bt≠Bo):
  Calls prog 239 #[.pointer (some ⟨Bt,0,none⟩),.pointer (some ⟨Bo,0,none⟩)] w fun e w'=>e= .returned (.bool true)/\Held w' Bt Bo base Tok.zero v out/\Fr (fun k=>k=Bt\/k=Bo\/base<=k) w w':=by
 have hz:=h.zero h1 h3;obtain⟨k,tx,n,a⟩:=t;simp only at hk;subst hk;have hb:=h.tok;obtain⟨c0,c1,c2,c3⟩:=hb.q4;obtain⟨f0,f1,f2,f3⟩:=hb.u4;go_enter func239,ntmps239;go_wp2;go_ret;exact⟨rfl,hz⟩
theorem ends_2n (Bt Bo base:Nat) (t:Tok) (v:Value) (out:List Tok) (w:World) (h:Held w Bt Bo base t v out) (hk:t.kind=2)
  (hd: ∀r∈runes t.text,48<=r/\r<=57) (hn:numGo 0 (runes t.text)=none):
  Calls prog 239 #[.pointer (some ⟨Bt,0,none⟩),.pointer (some ⟨Bo,0,none⟩)] w fun e w'=>e= .returned (.bool false)/\Fr (fun k=>k=Bt\/k=Bo\/base<=k) w w':=by
 obtain⟨k,tx,n,a⟩:=t;simp only at hk hd hn;subst hk;have hb:=h.tok;obtain⟨c0,c1,c2,c3⟩:=hb.q4;have HN:=Lh hn;clear hn;go_enter func239,ntmps239
 go_wp2_with (go_at_call 240;refine(number_c _ _ hd).mono ?_;rintro e w1 ⟨rfl,hb1⟩;rw[HN.o];unfold numRes;dsimp only[Option.getD,Option.isSome])
 go_ret;exact⟨rfl,Fr.of_new hb1⟩
theorem ends_2s (Bt Bo base:Nat) (t:Tok) (v:Value) (out:List Tok) (w:World) (h:Held w Bt Bo base t v out) (hk:t.kind=2) (h1:Bt<base) (h2:Bo<base) (h3:Bt≠Bo) (h4:base<=w.heap.size)
  (hd: ∀r∈runes t.text,48<=r/\r<=57) (m:Int) (hn:numGo 0 (runes t.text)=some m) (hl:out.length<1000000):
  Calls prog 239 #[.pointer (some ⟨Bt,0,none⟩),.pointer (some ⟨Bo,0,none⟩)] w fun e w'=>e= .returned (.bool true)/\(∃v',Held w' Bt Bo base Tok.zero v' (out++ [⟨2,{data:=#[]},m,t.at_⟩]))/\Fr (fun k=>k=Bt\/k=Bo\/base<=k) w w':=by
 obtain⟨k,tx,n,a⟩:=t;simp only at hk hd hn;subst hk;have hb:=h.tok;have c0:=hb.cell 0;have c1:=hb.cell 1;have HN:=Lh hn;clear hn;go_enter func239,ntmps239
 go_upto_region 7 with (go_at_call 240;refine(number_c _ _ hd).mono ?_;rintro e w1 ⟨rfl,hb1⟩;rw[HN.o];unfold numRes;dsimp only[Option.getD,Option.isSome];have hb2:=hb.below hb1 hb.lt;obtain⟨d0,d1,d2⟩:=hb2.q3;have f1:=hb2.free 1;have f2:=hb2.free 2)
 have H0:Held ((w1.setCell ⟨Bt,2,none⟩ (.int .i64 m)).setCell ⟨Bt,1,none⟩ (.string {data:=#[]})) Bt Bo base ⟨2,{data:=#[]},m,a⟩ v out/\Fr (fun k=>k=Bt\/k=Bo\/base<=k) w ((w1.setCell ⟨Bt,2,none⟩ (.int .i64 m)).setCell ⟨Bt,1,none⟩ (.string {data:=#[]}))/\w.heap.size<=((w1.setCell ⟨Bt,2,none⟩ (.int .i64 m)).setCell ⟨Bt,1,none⟩ (.string {data:=#[]})).heap.size:=by
  have hown:w1.ownsRow base 301 4 v out.length (toksCells out):=by
   refine h.own.kept (row:=none) ⟨hb1.os,hb1.tape,hb1.output,hb1.size,fun k hk _=>hb1.block k hk⟩ ?_
   cases hv:v.ownBlock<;>simp
  refine⟨⟨(hb2.set 2 _).set 1 _,((h.row.below hb1 h.row.lt).other (p:=⟨Bt,2,none⟩) (Ne.symm h3) _).other (p:=⟨Bt,1,none⟩) (Ne.symm h3) _,ownsRow_setCell_below (ownsRow_setCell_below hown (a:=⟨Bt,2,none⟩) h1 _) (a:=⟨Bt,1,none⟩) h1 _⟩,?_,?_⟩
  ·exact((Fr.of_new hb1).setCell (p:=⟨Bt,2,none⟩) (.inl (.inl rfl)) _).setCell (p:=⟨Bt,1,none⟩) (.inl (.inl rfl)) _
  ·simpa[World.setCell]using hb1.size
 generalize ((w1.setCell ⟨Bt,2,none⟩ (.int .i64 m)).setCell ⟨Bt,1,none⟩ (.string {data:=#[]}))=W at*;obtain⟨H,hf1,hsz⟩:=H0;clear hb2 d0 d1 d2 f1 f2 c0 c1 hb h hd;have hl0:=Lh hl;clear hl;have hcell:=cell_four_new W (.int .u8 2) (.string {data:=#[]}) (.int .i64 m) (.int .i64 a);obtain⟨d0,d1,d2,d3⟩:=H.tok.q4;have o0:=H.row.cell 0;obtain⟨i0,hi,hz0,hz1,hz2⟩:=info_parts info_tok
 go_wp2_with (at_builtin;refine wpList_append_own _ rfl _ _ 276 rfl base 301 i0 Tok.zero.agg 4 40 underlying276 hi hz0 hz1 hz2 rfl (by decide) _ _ _ rfl (H.own.alloc _) ⟨W.heap.size,0,none⟩ 1 1 [.int .u8 2,.string {data:=#[]},.int .i64 m,.int .i64 a] rfl rfl (hcell _) ?c2 ?c3 ?c4 ?c5 ?_)
 case c2=>simp[Value.oneCell']
 case c3=>unfold maxLen;have:=hl0.o;omega
 case c4=>have:=hl0.o;omega
 case c5=>first|omega|(simp;omega)
 intro v' w3 hown hgrow _;obtain⟨g',cap',rfl⟩:=owns_succ hown;obtain⟨H2,hf2,hBo,hBt⟩:=H.appended h1 h2 h3 hown hgrow;have e0:=hBo.cell 0;have e1:=hBo.free 0;obtain⟨g0,g1,g2,g3⟩:=hBt.q4;obtain⟨k0,k1,k2,k3⟩:=hBt.u4
 go_wp2_with fail
 go_ret;exact⟨rfl,⟨_,(H2.zero h1 h3).1⟩,(hf1.trans hf2).trans (H2.zero h1 h3).2⟩
theorem ends_k (Bt Bo base:Nat) (t:Tok) (v:Value) (out:List Tok) (w:World) (h:Held w Bt Bo base t v out) (hk2:(t.kind==2)=false) (hk0:(t.kind !=0)=true) (h1:Bt<base) (h2:Bo<base) (h3:Bt≠Bo) (h4:base<=w.heap.size) (hl:out.length<1000000):
  Calls prog 239 #[.pointer (some ⟨Bt,0,none⟩),.pointer (some ⟨Bo,0,none⟩)] w fun e w'=>e= .returned (.bool true)/\(∃v',Held w' Bt Bo base Tok.zero v' (out++ [t]))/\Fr (fun k=>k=Bt\/k=Bo\/base<=k) w w':=by
 obtain⟨k,tx,n,a⟩:=t;simp only at hk2 hk0;have hb:=h.tok;have c0:=hb.cell 0;have c1:=hb.cell 1;go_enter func239,ntmps239
 go_upto_region 7 with (fail)
 have H:=h;clear c0 c1 hb h;have hl0:=Lh hl;clear hl;have hcell:=cell_four_new w (.int .u8 k) (.string tx) (.int .i64 n) (.int .i64 a);obtain⟨d0,d1,d2,d3⟩:=H.tok.q4;have o0:=H.row.cell 0;obtain⟨i0,hi,hz0,hz1,hz2⟩:=info_parts info_tok
 go_wp2_with (at_builtin;refine wpList_append_own _ rfl _ _ 276 rfl base 301 i0 Tok.zero.agg 4 40 underlying276 hi hz0 hz1 hz2 rfl (by decide) _ _ _ rfl (H.own.alloc _) ⟨w.heap.size,0,none⟩ 1 1 [.int .u8 k,.string tx,.int .i64 n,.int .i64 a] rfl rfl (hcell _) ?c2 ?c3 ?c4 ?c5 ?_)
 case c2=>simp[Value.oneCell']
 case c3=>unfold maxLen;have:=hl0.o;omega
 case c4=>have:=hl0.o;omega
 case c5=>first|omega|(simp;omega)
 intro v' w3 hown hgrow _;obtain⟨g',cap',rfl⟩:=owns_succ hown;obtain⟨H2,hf2,hBo,hBt⟩:=H.appended h1 h2 h3 hown hgrow;have e0:=hBo.cell 0;have e1:=hBo.free 0;obtain⟨g0,g1,g2,g3⟩:=hBt.q4;obtain⟨k0,k1,k2,k3⟩:=hBt.u4
 go_wp2_with fail
 go_ret;exact⟨rfl,⟨_,(H2.zero h1 h3).1⟩,hf2.trans (H2.zero h1 h3).2⟩
theorem digit_runes {tx:ByteArray} (h: ∀b∈tx.data.toList,48<=b.toNat/\b.toNat<=57): ∀r∈runes tx,48<=r/\r<=57:=by
 rw[runes_ascii tx (fun b hb=>by have:=h b hb;omega)];intro r hr;obtain⟨b,hb,rfl⟩:=List.mem_map.1 hr;have:=h b hb;omega
theorem ends_none (Bt Bo base:Nat) (t:Tok) (v:Value) (out:List Tok) (w:World) (h:Held w Bt Bo base t v out) (h1:Bt<base) (h2:Bo<base) (h3:Bt≠Bo) (h4:base<=w.heap.size)
  (hd:t.kind=2-> ∀b∈t.text.data.toList,48<=b.toNat/\b.toNat<=57) (hn:endTok t out=none):
  Calls prog 239 #[.pointer (some ⟨Bt,0,none⟩),.pointer (some ⟨Bo,0,none⟩)] w fun e w'=>e= .returned (.bool false)/\Fr (fun k=>k=Bt\/k=Bo\/base<=k) w w':=by
 unfold endTok at hn;by_cases hk:t.kind=2
 ·rw[if_pos hk]at hn
  cases hg:numGo 0 (runes t.text)with
  |none=>exact ends_2n Bt Bo base t v out w h hk (digit_runes (hd hk)) hg
  |some m=>rw[hg]at hn;simp at hn
 ·rw[if_neg hk]at hn;split at hn<;>simp at hn
theorem ends_some (Bt Bo base:Nat) (t:Tok) (v:Value) (out:List Tok) (w:World) (h:Held w Bt Bo base t v out) (h1:Bt<base) (h2:Bo<base) (h3:Bt≠Bo) (h4:base<=w.heap.size)
  (hd:t.kind=2-> ∀b∈t.text.data.toList,48<=b.toNat/\b.toNat<=57) (hl:out.length<1000000) (o:List Tok) (hn:endTok t out=some o):
  Calls prog 239 #[.pointer (some ⟨Bt,0,none⟩),.pointer (some ⟨Bo,0,none⟩)] w fun e w'=>e= .returned (.bool true)/\(∃v',Held w' Bt Bo base Tok.zero v' o)/\Fr (fun k=>k=Bt\/k=Bo\/base<=k) w w':=by
 unfold endTok at hn;by_cases hk:t.kind=2
 ·rw[if_pos hk]at hn
  cases hg:numGo 0 (runes t.text)with
  |none=>rw[hg]at hn;simp at hn
  |some m=>
   rw[hg]at hn;simp only[Option.some.injEq]at hn;subst hn;exact ends_2s Bt Bo base t v out w h hk h1 h2 h3 h4 (digit_runes (hd hk)) m hg hl
 ·rw[if_neg hk]at hn;by_cases h0:t.kind=0
  ·rw[if_pos h0]at hn;simp only[Option.some.injEq]at hn;subst hn;exact(ends_0 Bt Bo base t v out w h h0 h1 h3).mono fun e w' ⟨he,hH,hf⟩=>⟨he,⟨_,hH⟩,hf⟩
  ·rw[if_neg h0]at hn;simp only[Option.some.injEq]at hn;subst hn;exact ends_k Bt Bo base t v out w h (by simpa using hk) (by simpa using h0) h1 h2 h3 h4 hl
theorem endTok_length {t:Tok} {out o:List Tok} (h:endTok t out=some o):o.length<=out.length+1:=by
 unfold endTok at h;split at h
 ·split at h
  ·simp at h
  ·simp only[Option.some.injEq]at h;subst h;simp
 ·split at h
  ·simp only[Option.some.injEq]at h;subst h;omega
  ·simp only[Option.some.injEq]at h;subst h;simp
section
variable {w w':World} {Bt Bo base:Nat} {t:Tok} {v:Value} {out:List Tok}
theorem Held.below (h:Held w Bt Bo base t v out) (hb:Below w.heap.size w w'):Held w' Bt Bo base t v out:=
 ⟨h.tok.below hb h.tok.lt,h.row.below hb h.row.lt,h.own.kept (row:=none) ⟨hb.os,hb.tape,hb.output,hb.size,fun k hk _=>hb.block k hk⟩ (by cases hv:v.ownBlock<;>simp)⟩
theorem Held.iterAt (h:Held w Bt Bo base t v out) {k:Nat} (h1:Bt≠k) (h2:Bo≠k) (h3:k<base) (s:ByteArray) (pos:Nat):Held (w.iterAt k s pos) Bt Bo base t v out:=
 ⟨h.tok.iterAt h1 s pos,h.row.iterAt h2 s pos,ownsRow_iterAt h.own h3 s pos⟩
theorem Held.text (h:Held w Bt Bo base t v out) (h1:Bt<base) (h3:Bt≠Bo) (x:ByteArray):Held (w.setCell ⟨Bt,1,none⟩ (.string x)) Bt Bo base {t with text:=x} v out:=
 ⟨h.tok.set 1 _,h.row.other (p:=⟨Bt,1,none⟩) (Ne.symm h3) _,ownsRow_setCell_below h.own (a:=⟨Bt,1,none⟩) h1 _⟩
theorem Held.put (h:Held w Bt Bo base t v out) (h1:Bt<base) (h3:Bt≠Bo) (u:Tok):
  Held ((((w.setCell ⟨Bt,0,none⟩ (.int .u8 u.kind)).setCell ⟨Bt,1,none⟩ (.string u.text)).setCell ⟨Bt,2,none⟩ (.int .i64 u.n)).setCell ⟨Bt,3,none⟩ (.int .i64 u.at_)) Bt Bo base u v out:=
 ⟨(((h.tok.set 0 _).set 1 _).set 2 _).set 3 _,(((h.row.other (p:=⟨Bt,0,none⟩) (Ne.symm h3) _).other (p:=⟨Bt,1,none⟩) (Ne.symm h3) _).other (p:=⟨Bt,2,none⟩) (Ne.symm h3) _).other (p:=⟨Bt,3,none⟩) (Ne.symm h3) _,
  ownsRow_setCell_below (ownsRow_setCell_below (ownsRow_setCell_below (ownsRow_setCell_below h.own (a:=⟨Bt,0,none⟩) h1 _) (a:=⟨Bt,1,none⟩) h1 _) (a:=⟨Bt,2,none⟩) h1 _) (a:=⟨Bt,3,none⟩) h1 _⟩
end
def TokPost (s:ByteArray) (w:World) (e:Ending) (w':World):Prop:=
 ∃v,e= .returned (.tuple #[v,.int .i64 (toks s).2.1,.int .i64 (toks s).2.2])/\Sl w' w'.heap.size 4 v (toks s).1.length (toksCells (toks s).1)/\Below w.heap.size w w'
theorem digit_encode (r:Int) (h2:kindN r=2): ∀b∈(Utf8.encode r).data.toList,48<=b.toNat/\b.toNat<=57:=by
 intro b hb;have hr:48<=r/\r<=57:=by
  unfold kindN at h2;by_cases h0:48<=r/\r<=57
  ·exact h0
  ·rw[if_neg h0]at h2;split at h2
   ·omega
   ·split at h2<;>omega
 have he:(Utf8.encode r).data.toList=[UInt8.ofNat r.toNat]:=by
  unfold Utf8.encode;have hv:Utf8.valid r=true:=by rw[validRune_eq];unfold validRune;simp;omega
  rw[if_pos hv];dsimp only;rw[if_pos (by omega)]
 rw[he]at hb;simp only[List.mem_singleton]at hb;subst hb;rw[UInt8.toNat_ofNat'];omega
theorem digits_one (r:Int):kindN r=2-> ∀b∈(Utf8.encode r).data.toList,48<=b.toNat/\b.toNat<=57:=digit_encode r
theorem digits_snoc (k:Int) (tx:ByteArray) (r:Int) (h:k=2-> ∀b∈tx.data.toList,48<=b.toNat/\b.toNat<=57) (hg:goesB k tx r=true):
  k=2-> ∀b∈(tx++Utf8.encode r).data.toList,48<=b.toNat/\b.toNat<=57:=by
 rintro rfl b hb;have h2:kindN r=2:=by unfold goesB at hg;simpa using hg
 rw[ByteArray.data_append,Array.toList_append,List.mem_append]at hb;rcases hb with hb|hb
 ·exact h rfl b hb
 ·exact digit_encode r h2 b hb
structure TokRel (s:ByteArray) (w:World) (i:Value) (wr:World):Prop where
 ex: ∃(t:Tok) (v:Value) (out:List Tok) (pos:Nat) (k:Int),i= .int .i64 k/\wr.heap[w.heap.size+2]? =some (.stringIter s pos)/\
  Held wr (w.heap.size+1) w.heap.size (w.heap.size+3) t v out/\Below w.heap.size w wr/\w.heap.size+3<=wr.heap.size/\
  (t.kind=2-> ∀b∈t.text.data.toList,48<=b.toNat/\b.toNat<=57)/\out.length+(runesAt s pos).length<=400/\ -1<=k/\k+(runesAt s pos).length<=400/\
  t.text.size+4*(runesAt s pos).length<=1600/\tokGo t k out (runesAt s pos)=toks s
theorem Tokens_c (s:ByteArray) (w:World):Calls prog 214 #[.string s] w (TokPost s w):=by
 by_cases h400:400<s.size
 ·have h4:(400:Int)<(s.size:Int):=by omega
  have hP:TokPost s w (.returned (.tuple #[.slice none 0 0,.int .i64 0,.int .i64 3])) w:=by
   unfold TokPost toks;rw[if_pos h400];exact⟨_,rfl,Sl.nil _ _ _,Below.refl _ _⟩
  have HP:=Lh hP;clear hP;go_enter func214,ntmps214;go_wp2
  go_step3
  go_wp2;rw[Exit.noGoto_ret];go_ret3;exact HP.o
 ·have h4: ¬(400:Int)<(s.size:Int):=by omega
  have hmf: ∀(fn:Fn) (first cap:Array Value) (w:World),(Instr.makeFunc fn first cap).run prog w= .ok (.func fn first cap) w:=fun _ _ _ _=>rfl;go_enter func214,ntmps214
  go_wp2_with fail
  go_step3
  go_wp2_with fail
  go_step3
  go_wp2_with fail
  go_loopw [8] (fun i wr=>TokRel s w i wr) (fun _ wr=>s.size-wr.iterPos (w.heap.size+2))
  case atStart=>
   refine⟨⟨Tok.zero,.slice none 0 0,[],0,-1,rfl,?_,⟨?_,?_,?_⟩,?_,?_,?_,?_,?_,?_,?_,?_⟩⟩
   ·exact heap_new_at _ _ (by simp)
   ·exact(Blk.new_at _ _ _ (by simp)).alloc _
   ·exact((Blk.new _ _ _).alloc _).alloc _
   ·exact World.ownsRow_nil _ _ _ _
   ·exact((br0.alloc le0 _).alloc (by simp) _).alloc (by simp;omega) _
   ·simp[World.iter]
   ·intro h;exact absurd h (by decide)
   ·have:=runesAt_length s 0;simp;omega
   ·omega
   ·have:=runesAt_length s 0;omega
   ·have:=runesAt_length s 0;show 0+4*_<=1600;omega
   ·unfold toks;rw[if_neg h400];rfl
  case round=>
   obtain⟨t,v,out,pos,k,rfl,hit,hH,hB,hsz,hdig,ho,hk1,hk2,htx,hgo⟩:=hrel.ex;have hH1:=hH.iterAt (k:=w.heap.size+2) (by omega) (by omega) (by omega) s (pos+(Utf8.decode s pos).2);have hB1:=Lib.below_iterAt hB (k:=w.heap.size+2) (by omega) s (pos+(Utf8.decode s pos).2);have hit1:=Lib.iterAt_heap wr (w.heap.size+2) s pos (pos+(Utf8.decode s pos).2) hit;have hsz1:w.heap.size+3<=(wr.iterAt (w.heap.size+2) s (pos+(Utf8.decode s pos).2)).heap.size:=by rw[Lib.iterAt_size];exact hsz
   by_cases hp:pos<s.size
   ·have hnx: ∀ty,(Instr.next (.pointer (some ⟨w.heap.size+2,0,none⟩)) true ty).run prog wr=_:=fun ty=>Lib.run_next_any_at wr (w.heap.size+2) s pos ty hit hp;rw[runesAt_step s pos hp]at hgo ho hk2 htx;generalize hpos1:pos+(Utf8.decode s pos).2=pos1 at*;generalize hW:wr.iterAt (w.heap.size+2) s pos1=W at*;generalize hR:((Utf8.decode s pos).1:Int)=r at*;have HPOS:=Lh hpos1;have HW:=Lh hW;have HR:=Lh hR;clear hpos1 hW hR;simp only[List.length_cons]at ho hk2 htx;have HGO:=Lh hgo;have HIT:=Lh hit1;have HDIG:=Lh hdig;have hIT0:=Lh hit;clear hgo hit1 hdig hit hH;obtain⟨tk,tx,tn,ta⟩:=t;obtain⟨c0,c1,c2,c3⟩:=hH1.tok.q4
    cases hg:goesB tk tx r
    all_goals
     have HG:=Lh hg;clear hg
    ·have hgo2:=HGO.o;simp only[tokGo]at hgo2;rw[if_neg (by rw[HG.o];decide)]at hgo2
     cases hend:endTok ⟨tk,tx,tn,ta⟩ out with
     |none=>
      have HEND:=Lh hend;rw[hend]at hgo2;have HGO2:=Lh hgo2;clear hend hgo2
      go_wp2_with (first
       |(go_at_call 241;refine(goes_c _ _ _ _ _ _).mono ?_;rintro e w1 ⟨rfl,hb1⟩;rw[HG.o];have hH2:=hH1.below hb1;have d3:=hH2.tok.cell 3)
       |(go_at_call 239;refine(ends_none _ _ _ _ _ _ _ hH2 (by omega) (by omega) (by omega) (by have:=hb1.size;omega) HDIG.o HEND.o).mono ?_;rintro e w2 ⟨rfl,hf2⟩))
      rw[Exit.noGoto_ret];go_ret3;have hg:=HGO2.o;unfold TokPost;rw[<-hg];exact⟨_,rfl,Sl.nil _ _ _,(hB1.trans (hb1.mono (by omega))).trans (hf2.below (by have:=hb1.size;omega) (by omega))⟩
     |some o=>
      have hol:=endTok_length hend;have HEND:=Lh hend;rw[hend]at hgo2;dsimp only at hgo2;by_cases hbl:r=32\/r=9
      ·rw[if_pos hbl]at hgo2;have hbl2:((r==32)||(r==9))=true:=by simpa using hbl
       have HBL:=Lh hbl;have HGO2:=Lh hgo2;clear hend hgo2 hbl
       go_wp2_with (first
        |(go_at_call 241;refine(goes_c _ _ _ _ _ _).mono ?_;rintro e w1 ⟨rfl,hb1⟩;rw[HG.o];have hH2:=hH1.below hb1;have d3:=hH2.tok.cell 3)
        |(go_at_call 239;refine(ends_some _ _ _ _ _ _ _ hH2 (by omega) (by omega) (by omega) (by have:=hb1.size;omega) HDIG.o (by omega) o HEND.o).mono ?_;rintro e w2 ⟨rfl,⟨v2,hH3⟩,hf2⟩))
       all_goals
        have hit2:w2.heap[w.heap.size+2]? =some (.stringIter s pos1):=by
         rw[hf2.block _ (by have:=hb1.size;omega) (by omega),hb1.block _ (by omega)];exact HIT.o
        have hB2:Below w.heap.size w w2:=(hB1.trans (hb1.mono (by omega))).trans (hf2.below (by have:=hb1.size;omega) (by omega));have hsz2:w.heap.size+3<=w2.heap.size:=by have:=hb1.size;have:=hf2.size;omega
        go_roundw
        case rel=>exact⟨⟨Tok.zero,v2,o,pos1,k+1,rfl,hit2,hH3,hB2,hsz2,fun h=>absurd h (by decide),by omega,by omega,by omega,(by show 0+4*_<=1600;omega),HGO2.o⟩⟩
        case measure=>
         have hwd:=Lib.decode_width_pos s pos hp;rw[iterPos_of hIT0.o,iterPos_of hit2];have:=HPOS.o;omega
      ·rw[if_neg hbl]at hgo2;by_cases hk0:kindN r=0
       all_goals
        have hbl2: ¬r=32:=fun h=>hbl (.inl h);have hbl3:(r==9)=false:=by rw[bq0];exact fun h=>hbl (.inr h)
        have hbl4:(r==32)=false:=by rw[bq0];exact hbl2
       ·rw[if_pos hk0]at hgo2;have HGO2:=Lh hgo2;have HK:=Lh hk0;clear hend hgo2 hbl hk0
        go_wp2_with (first
         |(go_at_call 241;refine(goes_c _ _ _ _ _ _).mono ?_;rintro e w1 ⟨rfl,hb1⟩;rw[HG.o];have hH2:=hH1.below hb1;have d3:=hH2.tok.cell 3)
         |(go_at_call 239;refine(ends_some _ _ _ _ _ _ _ hH2 (by omega) (by omega) (by omega) (by have:=hb1.size;omega) HDIG.o (by omega) o HEND.o).mono ?_;rintro e w2 ⟨rfl,⟨v2,hH3⟩,hf2⟩)
         |(go_at_call 242;refine(kind_c _ _).mono ?_;rintro e w3 ⟨rfl,hb3⟩;rw[HK.o];have hH4:=hH3.below hb3;obtain⟨m0,m1,m2,m3⟩:=hH4.tok.q4;obtain⟨n0,n1,n2,n3⟩:=hH4.tok.u4))
        rw[Exit.noGoto_ret];go_ret3;have hg:=HGO2.o;unfold TokPost;rw[<-hg];refine⟨_,rfl,Sl.nil _ _ _,?_⟩;have hB2:Below w.heap.size w w2:=(hB1.trans (hb1.mono (by omega))).trans (hf2.below (by have:=hb1.size;omega) (by omega));exact((((hB2.trans (hb3.mono hB2.size)).setCell (by simp) _).setCell (by simp) _).setCell (by simp) _).setCell (by simp) _
       ·rw[if_neg hk0]at hgo2;have HGO2:=Lh hgo2;have hk1':(kindN r==0)=false:=by simpa using hk0
        have HK:=Lh hk0;clear hend hgo2 hbl hk0
        go_wp2_with (first
         |(go_at_call 241;refine(goes_c _ _ _ _ _ _).mono ?_;rintro e w1 ⟨rfl,hb1⟩;rw[HG.o];have hH2:=hH1.below hb1;have d3:=hH2.tok.cell 3)
         |(go_at_call 239;refine(ends_some _ _ _ _ _ _ _ hH2 (by omega) (by omega) (by omega) (by have:=hb1.size;omega) HDIG.o (by omega) o HEND.o).mono ?_;rintro e w2 ⟨rfl,⟨v2,hH3⟩,hf2⟩)
         |(go_at_call 242;refine(kind_c _ _).mono ?_;rintro e w3 ⟨rfl,hb3⟩;skip;have hH4:=hH3.below hb3;obtain⟨m0,m1,m2,m3⟩:=hH4.tok.q4;obtain⟨n0,n1,n2,n3⟩:=hH4.tok.u4))
        have hes:=encode_size r;have hP:=hH4.put (by omega) (by omega) ⟨kindN r,Utf8.encode r,0,k+1⟩;have hB2:Below w.heap.size w w2:=(hB1.trans (hb1.mono (by omega))).trans (hf2.below (by have:=hb1.size;omega) (by omega));have hB5:=(((((hB2.trans (hb3.mono hB2.size)).setCell (p:=⟨w.heap.size+1,0,none⟩) (by simp) (.int .u8 (kindN r))).setCell (p:=⟨w.heap.size+1,1,none⟩) (by simp) (.string (Utf8.encode r))).setCell (p:=⟨w.heap.size+1,2,none⟩) (by simp) (.int .i64 0)).setCell (p:=⟨w.heap.size+1,3,none⟩) (by simp) (.int .i64 (k+1)));have hit2:w2.heap[w.heap.size+2]? =some (.stringIter s pos1):=by
         rw[hf2.block _ (by have:=hb1.size;omega) (by omega),hb1.block _ (by omega)];exact HIT.o
        have hsz2:w.heap.size+3<=w3.heap.size:=by have:=hb1.size;have:=hf2.size;have:=hb3.size;omega
        have hit3:w3.heap[w.heap.size+2]? =some (.stringIter s pos1):=by
         rw[hb3.block _ (by have:=hb1.size;have:=hf2.size;omega)];exact hit2
        have hit4:((((w3.setCell ⟨w.heap.size+1,0,none⟩ (.int .u8 (kindN r))).setCell ⟨w.heap.size+1,1,none⟩ (.string (Utf8.encode r))).setCell ⟨w.heap.size+1,2,none⟩ (.int .i64 0)).setCell ⟨w.heap.size+1,3,none⟩ (.int .i64 (k+1))).heap[w.heap.size+2]? =some (.stringIter s pos1):=by
         rw[heap_setCell_other _ _ _ _ (by simp),heap_setCell_other _ _ _ _ (by simp),heap_setCell_other _ _ _ _ (by simp),heap_setCell_other _ _ _ _ (by simp)];exact hit3
        go_roundw
        case rel=>exact⟨⟨⟨kindN r,Utf8.encode r,0,k+1⟩,v2,o,pos1,k+1,rfl,hit4,hP,hB5,(by simpa[World.setCell]using hsz2),digits_one r,by omega,by omega,by omega,(by show(Utf8.encode r).size+4*_<=1600;omega),HGO2.o⟩⟩
        case measure=>
         have hwd:=Lib.decode_width_pos s pos hp;rw[iterPos_of hIT0.o,iterPos_of hit4];have:=HPOS.o;omega
    ·have hes:=encode_size r
     go_wp2_with (go_at_call 241;refine(goes_c _ _ _ _ _ _).mono ?_;rintro e w1 ⟨rfl,hb1⟩;rw[HG.o];have hH2:=hH1.below hb1;have d1:=hH2.tok.cell 1;have f1:=hH2.tok.free 1)
     go_roundw
     case rel=>
      have hgo2:=HGO.o;simp only[tokGo]at hgo2;rw[if_pos HG.o]at hgo2;refine⟨⟨⟨tk,tx++Utf8.encode r,tn,ta⟩,v,out,pos1,k+1,rfl,?_,hH2.text (by omega) (by omega) _,?_,?_,?_,by omega,by omega,by omega,?_,hgo2⟩⟩
      ·rw[heap_setCell_other _ _ _ _ (by simp),hb1.block _ (by omega)];exact HIT.o
      ·exact(hB1.trans (hb1.mono (by omega))).setCell (by simp) _
      ·have:=hb1.size;simp[World.setCell];omega
      ·exact digits_snoc tk tx r HDIG.o HG.o
      ·simp only[ByteArray.size_append];omega
     case measure=>
      have hwd:=Lib.decode_width_pos s pos hp;have hit2:(w1.setCell ⟨w.heap.size+1,1,none⟩ (.string (tx++Utf8.encode r))).heap[w.heap.size+2]? =some (.stringIter s pos1):=by
       rw[heap_setCell_other _ _ _ _ (by simp),hb1.block _ (by omega)];exact HIT.o
      rw[iterPos_of hIT0.o,iterPos_of hit2];have:=HPOS.o;omega
   ·have hnx: ∀ty,(Instr.next (.pointer (some ⟨w.heap.size+2,0,none⟩)) true ty).run prog wr=_:=fun ty=>Lib.run_next_end_at wr (w.heap.size+2) s pos ty hit hp;rw[runesAt_end s pos hp]at hgo ho hk2 htx;simp only[List.length_nil]at ho hk2 htx;have HDIG:=Lh hdig;clear hdig hit1 hH1 hB1 hsz1 hit;obtain⟨tk,tx,tn,ta⟩:=t;have d3:=hH.tok.cell 3;simp only[tokGo]at hgo
    cases hend:endTok ⟨tk,tx,tn,ta⟩ out with
    |none=>
     have HEND:=Lh hend;rw[hend]at hgo;have HGO2:=Lh hgo;clear hend hgo
     go_wp2_with (go_at_call 239;refine(ends_none _ _ _ _ _ _ _ hH (by omega) (by omega) (by omega) (by omega) HDIG.o HEND.o).mono ?_;rintro e w2 ⟨rfl,hf2⟩)
     rw[Exit.noGoto_ret];go_ret3;have hg:=HGO2.o;unfold TokPost;rw[<-hg];exact⟨_,rfl,Sl.nil _ _ _,hB.trans (hf2.below (by omega) (by omega))⟩
    |some o=>
     have HEND:=Lh hend;rw[hend]at hgo;have HGO2:=Lh hgo;clear hend hgo
     go_wp2_with (go_at_call 239;refine(ends_some _ _ _ _ _ _ _ hH (by omega) (by omega) (by omega) (by omega) HDIG.o (by omega) o HEND.o).mono ?_;rintro e w2 ⟨rfl,⟨v2,hH3⟩,hf2⟩;have q0:=hH3.row.cell 0)
     rw[Exit.noGoto_ret];go_ret3;have hg:=HGO2.o;unfold TokPost;rw[<-hg];exact⟨_,rfl,Sl.of_owns hH3.own,hB.trans (hf2.below (by omega) (by omega))⟩
