/- Parts. -/
import Derived.Test.YtgbfdcmkbblodaaGreatDoorSF
import Derived.Shelf.Strings.SlTrimAscii
import Derived.Lib.AtoiErrMem
import Derived.Test.YtgbfdcmkbblodaaGreatDoorVW13
import Derived.Test.YtgbfdcmkbblodaaGreatDoorVW9b
namespace Go.Proofs.YtgbfdcmkbblodaaGreatDoor
open Go.RowKit
set_option linter.unusedVariables false
set_option linter.unusedSimpArgs false
set_option maxRecDepth 100000
set_option maxHeartbeats 16000000
open Tryz
theorem Sl.oneB {w:World} {b:Nat} {t:TypeId} {x:Value} (h:Blk w b t #[x]):Sl w w.heap.size 1 (.slice (some ⟨b,0,none⟩) 1 1) 1 [x]:=
 ⟨rfl,_,1,rfl,le0,by unfold maxLen;omega,.inr ⟨b,0,rfl,h.lt,fun j hj=>by rw[Nat.zero_add,h.cell];simp⟩⟩
theorem PutText_c (u:ByteArray) (hu:u.size<=65536) (w:World):CB prog 77 #[.string u] w (.tuple #[.string ⟨(txtL u).toArray⟩,.int .i64 0]):=by
 have hg: ¬(65536:Int)<(u.size:Int):=by omega
 have hr: ∀z∈ [(u.size:Int)],-9223372036854775808<=z/\z<=9223372036854775807:=by intro z hz;simp at hz;subst hz;omega
 have hpl:(putL [(u.size:Int)]).length<=10:=putL_len [(u.size:Int)] hr;have HR:=Lh hr;clear hr;have HE:Hd (txtL u=putL [(u.size:Int)]++u.data.toList):=by
  show _=_;unfold txtL putL;simp
 generalize hp:putL [(u.size:Int)]=p at*;have HP:=Lh hp;clear hp;go_enter func77,ntmps77
 go_wp2_with fail
 refine(PutB_c [(u.size:Int)] 1 _ _ _ (Sl.oneB (Blk.new w #[.int .i64 (u.size:Int)] 2)) rfl le0 HR.o (by omega)).mono ?_;rw[HP.o];rintro e w1 ⟨rfl,hb1⟩;have hB1:Below w.heap.size w w1:=((Below.refl w.heap.size w).alloc le0 _).trans (hb1.mono (by simp))
 go_wp2_with fail
 have hbk:=Blk.new w1 #[.string ⟨p.toArray⟩,.string u] 9;have hj2:Lib.join ([⟨p.toArray⟩,u].map (·.data.toList)) ({data:=#[]}:ByteArray).data.toList=p++u.data.toList:=by simp[Lib.join,List.intercalate]
 refine(strings_Join w1.heap.size 0 2 [⟨p.toArray⟩,u] {data:=#[]} _ (fun j x hj=>?_) (by simp) (by simp) (by simp) ?_).mono ?_
 ·rw[Nat.zero_add,hbk.cell j];have:j<2:=(List.getElem?_eq_some_iff.1 hj).1;have hj2:j=0\/j=1:=by omega
  rcases hj2 with rfl|rfl
  ·simp at hj;subst hj;rfl
  ·simp at hj;subst hj;rfl
 ·rw[hj2];rw[la0];have:=Lib.size_eq u;omega
 ·rintro e w2 ⟨rfl,hb2⟩;rw[hj2]
  go_wp2_with fail
  go_ret2;refine⟨?_,hB1.trans (((Below.refl w1.heap.size w1).alloc le0 _).trans (hb2.mono (by simp))|>.mono hB1.size)⟩;rw[HE.o];rfl
theorem TakeText_c (s:ByteArray) (hs:s.size<=140737488355328) (w:World):Calls prog 47 #[.string s] w fun e w'=>e= .returned (.tuple #[.string (takeT s).1,.int .i64 (takeT s).2.1,.int .i64 (takeT s).2.2])/\w=w':=by
 have HE:Hd (takeT s=if(takeS s).2.2≠0 then(.empty,0,(takeS s).2.2)else if(takeS s).1<0 then(.empty,0,21)else if 65536<(takeS s).1 then(.empty,0,3)
  else if(s.size:Int)<(takeS s).2.1+(takeS s).1 then(.empty,0,20)else(s.extract (takeS s).2.1.toNat ((takeS s).2.1.toNat+(takeS s).1.toNat),(takeS s).2.1+(takeS s).1,0)):=rfl
 have HTK:Hd (∀W:World,Calls prog 45 #[.string s] W fun e w'=>e= .returned (.tuple #[.int .i64 (takeS s).1,.int .i64 (takeS s).2.1,.int .i64 (takeS s).2.2])/\W=w'):=fun W=>Take_c s hs W;have hback:(takeS s).2.2=0-> ∃k:Nat,(takeS s).2.1=(k:Int)/\k<=s.size/\ -9223372036854775808<=(takeS s).1/\(takeS s).1<=9223372036854775807:=fun h=>by
  have e:tkGo 0 0 s.data.toList=((takeS s).1,(takeS s).2.1,0):=by rw[<-h];rfl
  obtain⟨k,h1,h2,_,_,h5,h6⟩:=take_back e;exact⟨k,h1,by rw[<-Lib.size_eq]at h2;exact h2,h5,h6⟩
 generalize takeT s=R at*;generalize takeS s=q at*;obtain⟨n,sz,er⟩:=q;dsimp only at HE HTK hback;by_cases he:er=0
 ·subst he;obtain⟨k,rfl,hk,hn1,hn2⟩:=hback rfl;have HE2:=HE.o;rw[if_neg (by simp)]at HE2;clear HE hback;by_cases c1:n<0
  ·rw[if_pos c1]at HE2;have HR:=Lh HE2;clear HE2;have d1:decide (n<0)=true:=dt0 c1;go_enter func47,ntmps47
   go_wp2_with fail
   refine(HTK.o _).mono ?_;rintro e w1 ⟨rfl,rfl⟩
   go_wp2_with fail
   go_ret3;rw[HR.o];exact⟨rfl,rfl⟩
  ·rw[if_neg c1]at HE2;have d1:decide (n<0)=false:=df0 c1;by_cases c2:65536<n
   ·rw[if_pos c2]at HE2;have HR:=Lh HE2;clear HE2;have d2:decide (65536<n)=true:=dt0 c2;go_enter func47,ntmps47
    go_wp2_with fail
    refine(HTK.o _).mono ?_;rintro e w1 ⟨rfl,rfl⟩
    go_wp2_with fail
    go_ret3;rw[HR.o];exact⟨rfl,rfl⟩
   ·rw[if_neg c2]at HE2;obtain⟨m,rfl⟩: ∃m:Nat,n=(m:Int):=⟨n.toNat,by omega⟩;by_cases c3:(s.size:Int)<(k:Int)+(m:Int)
    ·rw[if_pos c3]at HE2;have HR:=Lh HE2;clear HE2;have d2: ¬(65536:Int)<(m:Int):=c2;have d3:(s.size:Int) -(k:Int)<(m:Int):=by omega
     go_enter func47,ntmps47
     go_wp2_with fail
     refine(HTK.o _).mono ?_;rintro e w1 ⟨rfl,rfl⟩
     go_wp2_with fail
     go_ret3;rw[HR.o];exact⟨rfl,rfl⟩
    ·rw[if_neg c3]at HE2;have HR:=Lh HE2;clear HE2;have d2: ¬(65536:Int)<(m:Int):=c2;have d3: ¬(s.size:Int) -(k:Int)<(m:Int):=by omega
     have d4:k+m<=s.size:=by omega
     go_enter func47,ntmps47
     go_wp2_with fail
     refine(HTK.o _).mono ?_;rintro e w1 ⟨rfl,rfl⟩
     go_wp2_with fail
     go_ret3;rw[HR.o];exact⟨rfl,rfl⟩
 ·have HE2:=HE.o;rw[if_pos he]at HE2;have HR:=Lh HE2;clear HE HE2 hback;have d1:(er !=0)=true:=by simpa using he
  go_enter func47,ntmps47
  go_wp2_with fail
  refine(HTK.o _).mono ?_;rintro e w1 ⟨rfl,rfl⟩
  go_wp2_with fail
  go_ret3;rw[HR.o];exact⟨rfl,rfl⟩
def hasK (k:Int):Bool:=decide (2<=k)&&decide (k<=6)
theorem hasK_c (k:Int) (w:World):Calls prog 182 #[.int .u8 k] w fun e w'=>e= .returned (.bool (hasK k))/\w=w':=by
 go_enter func182,ntmps182;go_wp2
 all_goals
  go_ret;exact⟨ret_bool (by unfold hasK;rw[Bool.eq_iff_iff];simp;try omega),rfl⟩
theorem strEq (s t:ByteArray):(s.toList==t.toList)=decide (s=t):=by
 rw[Bool.eq_iff_iff,beq_iff_eq,decide_eq_true_eq];exact bytes_inj s t
theorem toList_nil (s:ByteArray):s.toList=[]↔s.size=0:=by
 rw[Lib.toList_data,Lib.size_eq,List.length_eq_zero_iff]
theorem empty_yes {s:ByteArray} (h:s.size=0):s.toList.isEmpty=true:=by rw[(toList_nil s).2 h];rfl
theorem empty_no {s:ByteArray} (h: ¬s.size=0):s.toList.isEmpty=false:=by
 rw[List.isEmpty_eq_false_iff];exact fun e=>h ((toList_nil s).1 e)
theorem below_iterN (w:World) (s:ByteArray) (pos:Nat):Below w.heap.size w (w.iter s pos):=by
 have h:=(Below.refl w.heap.size w).alloc le0 (.stringIter s pos);exact h
theorem snumber_c (s:ByteArray) (most:Nat) (hm:most<=18) (w:World) (hs:s.size<=maxLen):
  CB prog 180 #[.string s,.int .i64 (most:Int)] w (.tuple #[.int .i64 (numB s most).1,.bool (numB s most).2]):=by
 unfold maxLen at hs;go_enter func180,ntmps180;go_wp2
 go_loopw [4] (fun n wr=> ∃(pos:Nat),wr=w.iter s pos/\n= .int .i64 0/\allDig s pos) (fun _ wr=>s.size-wr.iterPos w.heap.size)
 case atStart=>exact⟨0,rfl,rfl,allDig_zero s⟩
 case round=>
  obtain⟨pos,rfl,rfl,hd⟩:=hrel;by_cases hp:pos<s.size
  ·have hnx: ∀ty,(Instr.next (.pointer (some ⟨w.heap.size,0,none⟩)) true ty).run prog (w.iter s pos)=_:=fun ty=>run_next_any w s pos ty hp;have hwd:=Lib.decode_width_pos s pos hp;have HD:=Lh hd;clear hd;by_cases h48:((Utf8.decode s pos).1:Int)<48
   ·have HB:=Lh (num_bad s most pos hp (.inl h48));go_wp2
    all_goals
     go_ret2;rw[HB.o];exact⟨rfl,below_iterN _ _ _⟩
   ·by_cases h57:57<((Utf8.decode s pos).1:Int)
    ·have HB:=Lh (num_bad s most pos hp (.inr h57));go_wp2
     all_goals
      go_ret2;rw[HB.o];exact⟨rfl,below_iterN _ _ _⟩
    ·have HB:=Lh (allDig_step s pos hp h48 h57 HD.o);go_wp2;go_roundw
     case rel=>exact⟨_,rfl,rfl,HB.o⟩
     case measure=>simp;omega
  ·have hnx: ∀ty,(Instr.next (.pointer (some ⟨w.heap.size,0,none⟩)) true ty).run prog (w.iter s pos)=_:=fun ty=>run_next_end w s pos ty hp;have ha:=allDig_all s pos (by omega) hd;have HW:Hd (Below w.heap.size w (w.iter s pos)):=below_iterN _ _ _;have hWs:w.heap.size<=(w.iter s pos).heap.size:=HW.o.size;generalize w.iter s pos=W at*;by_cases h0:s.size=0
   ·have he:=empty_yes h0;have HB:=Lh (num_long s most (.inl h0));go_wp2;go_ret2;rw[HB.o];exact⟨rfl,HW.o⟩
   ·have he:=empty_no h0;by_cases h1:most<s.size
    ·have HB:=Lh (num_long s most (.inr h1));have h1':(most:Int)<(s.size:Int):=by omega
     go_wp2;go_ret2;rw[HB.o];exact⟨rfl,HW.o⟩
    ·have HB:=Lh (num_good s most ha (by omega) (by omega));have h1': ¬(most:Int)<(s.size:Int):=by omega
     have HA:=Lh (atoi_dig s.data.toList ha (fun e=>h0 (by rw[Lib.size_eq,e];rfl)));have h18:s.size<=18:=by omega
     go_wp2_with (go_at_call 212;refine(strconv_Atoi _ _ h18 HA.o _).mono ?_;rintro e w2 ⟨rfl,tt,hw2⟩)
     go_ret2;refine⟨by rw[HB.o];rfl,HW.o.trans ?_⟩;exact(Lib.bytesWorld_below _ _ _).mono hWs
theorem sparts_c (s:ByteArray) (w:World) (hs:s.size<=maxLen):
  CB prog 178 #[.string s] w (.tuple #[.string (ba (aheadL s)),.string (bif hasColon s then ba (behindL s)else {data:=#[]}),.bool (hasColon s)]):=by
 unfold maxLen at hs;go_enter func178,ntmps178;go_wp2
 go_loopw [2] (fun n wr=> ∃(pos:Nat),wr=w.iter s pos/\n= .string {data:=#[]}/\noColon s pos) (fun _ wr=>s.size-wr.iterPos w.heap.size)
 case atStart=>exact⟨0,rfl,rfl,noColon_zero s⟩
 case round=>
  obtain⟨pos,rfl,rfl,hd⟩:=hrel;by_cases hp:pos<s.size
  ·have hnx: ∀ty,(Instr.next (.pointer (some ⟨w.heap.size,0,none⟩)) true ty).run prog (w.iter s pos)=_:=fun ty=>run_next_any w s pos ty hp;have hwd:=Lib.decode_width_pos s pos hp;have HD:=Lh hd;clear hd;by_cases h58:((Utf8.decode s pos).1:Int)=58
   ·have HB:=Lh (colon_at s pos hp h58 HD.o)
    go_upto_region 5 with fail
    go_region
    all_goals
     go_wp2;go_ret3;refine⟨?_,(below_iterN w s (pos+(Utf8.decode s pos).2)).drew⟩;obtain⟨b1,b2,b3⟩:=HB.o;rw[b1,<-b2,<-b3];rfl
   ·have HB:=Lh (noColon_step s pos hp h58 HD.o);have h58': ¬(Utf8.decode s pos).1=58:=by omega
    go_wp2;go_roundw
    case rel=>exact⟨_,rfl,rfl,HB.o⟩
    case measure=>simp;omega
  ·have hnx: ∀ty,(Instr.next (.pointer (some ⟨w.heap.size,0,none⟩)) true ty).run prog (w.iter s pos)=_:=fun ty=>run_next_end w s pos ty hp;have HB:=Lh (colon_none s pos (by omega) hd);go_wp2;go_ret3;obtain⟨b1,b2⟩:=HB.o;refine⟨?_,below_iterN _ _ _⟩;rw[b1,<-b2];rfl
def cutS:ByteArray:={data:=#[32,9]}
theorem strim_c (s:ByteArray) (w:World) (hs:s.size<=9223372036854775807):
  CB prog 177 #[.string s,.string {data:=#[32,9]}] w (.string (ba (Lib.trimS s.data.toList [32,9]))):=
 Any.strings_Trim_laid lays160 (by kernel_rfl) s cutS w hs (by decide) (ascii_of_all (by decide))
theorem strimL_c (s:ByteArray) (w:World):
  CB prog 184 #[.string s,.string {data:=#[32,9]}] w (.string (ba (Lib.trimLeftS s.data.toList [32,9]))):=
 Any.strings_TrimLeft_laid lays161 (by kernel_rfl) s cutS w (by decide) (ascii_of_all (by decide))
def silentB (s:ByteArray):Bool:=s.data.toList.all blankU||(s.data.toList.head? ==some 35)
theorem drop_nil {p:UInt8->Bool}: ∀l:List UInt8,l.dropWhile p=[]↔l.all p=true
 | []=>by simp
 |a::l=>by
  rw[List.dropWhile_cons,List.all_cons]
  cases h:p a
  ·simp
  ·simp[drop_nil l]
theorem drop_all {p:UInt8->Bool}: ∀l:List UInt8,(l.dropWhile p).all p=true↔l.all p=true
 | []=>by simp
 |a::l=>by
  rw[List.dropWhile_cons]
  cases h:p a
  ·simp
  ·simp only[if_true,drop_all l,List.all_cons,h,Bool.true_and]
theorem in_blank:(fun b:UInt8=>([32,9]:List UInt8).contains b)=blankU:=by
 funext b
 unfold blankU;show(match b==32 with|true=>true|false=>List.elem b [9])=_
 cases b==32
 ·show(match b==9 with|true=>true|false=>List.elem b [])=_
  cases b==9<;>rfl
 ·rfl
theorem trim_nil (l:List UInt8):(Lib.trimS l [32,9]=[])↔l.all blankU=true:=by
 unfold Lib.trimS Lib.trimLeftS Lib.trimRightS;rw[in_blank,drop_nil,List.all_reverse,drop_all,List.all_reverse]
theorem ssilent_c (s:ByteArray) (w:World) (hs:s.size<=maxLen):
  CB prog 153 #[.string s] w (.bool (silentB s)):=by
 unfold maxLen at hs;have hq:((ba (Lib.trimS s.data.toList [32,9])).size=0)↔s.data.toList.all blankU=true:=by
  rw[ba_size,List.length_eq_zero_iff];exact trim_nil _
 cases hall:s.data.toList.all blankU
 ·rw[hall]at hq;have he':(ba (Lib.trimS s.data.toList [32,9])).toList.isEmpty=false:=empty_no fun h=>by have:=hq.1 h;simp at this
  have hne:0<s.size:=by
   rw[Lib.size_eq]
   cases hl:s.data.toList with
   |nil=>rw[hl]at hall;simp at hall
   |cons a l=>simp
  have HB:Hd (silentB s=(s.data.toList.head? ==some 35)):=by unfold Hd silentB;rw[hall,Bool.false_or]
  have HH:Hd (s.data.toList.head? =some s[0]):=by
   unfold Hd;rw[List.head?_eq_getElem?,List.getElem?_eq_getElem (by rw[<-Lib.size_eq];exact hne)];rfl
  clear hq;go_enter func153,ntmps153
  go_wp2_with (go_at_call 177;refine(strim_c _ _ (by omega)).mono ?_;rintro e w2 ⟨rfl,hw2⟩)
  go_ret;refine⟨ret_bool ?_,hw2⟩;rw[HB.o,HH.o,Bool.eq_iff_iff,beq_iff_eq,beq_iff_eq,Option.some.injEq];constructor
  ·intro h;exact UInt8.toNat_inj.1 (by show s[0].toNat=35;omega)
  ·intro h;rw[h];rfl
 ·have he':(ba (Lib.trimS s.data.toList [32,9])).toList.isEmpty=true:=empty_yes (hq.2 hall);have HB:Hd (silentB s=true):=by unfold Hd silentB;rw[hall,Bool.true_or]
  clear hq;go_enter func153,ntmps153
  go_wp2_with (go_at_call 177;refine(strim_c _ _ (by omega)).mono ?_;rintro e w2 ⟨rfl,hw2⟩)
  go_ret;rw[HB.o];exact⟨rfl,hw2⟩
def wordL:List ByteArray:=[{data:=#[]},{data:=#[115,111,117,114,99,101]},{data:=#[109,97,112]},{data:=#[102,105,108,116,101,114]},{data:=#[102,108,97,116]},{data:=#[107,101,121]},{data:=#[114,101,100,117,99,101]},{data:=#[119,105,110,100,111,119]},{data:=#[117,110,105,111,110]},{data:=#[115,105,110,107]}]
theorem kwords_c (w:World):CB prog 213 #[] w (.agg #[.string {data:=#[]},.string {data:=#[115,111,117,114,99,101]},.string {data:=#[109,97,112]},.string {data:=#[102,105,108,116,101,114]},.string {data:=#[102,108,97,116]},.string {data:=#[107,101,121]},.string {data:=#[114,101,100,117,99,101]},.string {data:=#[119,105,110,100,111,119]},.string {data:=#[117,110,105,111,110]},.string {data:=#[115,105,110,107]}]):=by
 go_enter func213,ntmps213;go_wp2;refine bodyPost_ret (v:= .agg #[.string {data:=#[]},.string {data:=#[115,111,117,114,99,101]},.string {data:=#[109,97,112]},.string {data:=#[102,105,108,116,101,114]},.string {data:=#[102,108,97,116]},.string {data:=#[107,101,121]},.string {data:=#[114,101,100,117,99,101]},.string {data:=#[119,105,110,100,111,119]},.string {data:=#[117,110,105,111,110]},.string {data:=#[115,105,110,107]}]) (results_cell_row rfl _ _ w.heap.size 274 _ (0,0) _ rfl (heap_alloc_new w _) underlying274 rfl ?_) rfl ⟨rfl,?_⟩
 ·kernel_rfl
 ·exact br0.alloc le0 _
theorem info_strN:(prog.info? 9).map (fun i=>(i.zero,i.size,i.bytes))=some (some (.string {data:=#[]}),1,16):=by kernel_rfl
def WordsPost (s:ByteArray) (w:World) (e:Ending) (w':World):Prop:=
 ∃v,e= .returned (.tuple #[v,.int .i64 (wordsB s).2])/\Sl w' w'.heap.size 1 v (wordsB s).1.length ((wordsB s).1.map Value.string)/\Below w.heap.size w w'
structure WRel (s:ByteArray) (w:World) (v f:Value) (wr:World):Prop where
 ex: ∃(pos:Nat) (k:Int) (acc:List ByteArray),f= .int .i64 k/\wr.heap[w.heap.size]? =some (.stringIter s pos)/\wr.ownsRow (w.heap.size+1) 9 1 v acc.length (acc.map Value.string)/\
  Below w.heap.size w wr/\w.heap.size+1<=wr.heap.size/\acc.length<=pos/\pos<=s.size/\ -1<=k/\(¬k<0->k.toNat<pos)/\wAt s pos k acc=wordsB s
theorem Words_c (s:ByteArray) (w:World) (hs:s.size<=maxLen):Calls prog 179 #[.string s] w (WordsPost s w):=by
 unfold maxLen at hs;by_cases h400:400<s.size
 ·have h4:(400:Int)<(s.size:Int):=by omega
  have hP:WordsPost s w (.returned (.tuple #[.slice none 0 0,.int .i64 3])) w:=by
   unfold WordsPost wordsB;rw[if_pos h400];exact⟨_,rfl,Sl.nil _ _ _,Below.refl _ _⟩
  have HP:=Lh hP;clear hP;go_enter func179,ntmps179;go_wp2;go_ret2;exact HP.o
 ·have h4: ¬(400:Int)<(s.size:Int):=by omega
  obtain⟨i0,hi,hz0,hz1,hz2⟩:=info_parts info_strN;have HS:=Lh (wAt_start s h400);go_enter func179,ntmps179;go_wp2
  go_loopw [4,5] (fun v f wr=>WRel s w v f wr) (fun _ _ wr=>s.size-wr.iterPos w.heap.size)
  case atStart=>
   exact⟨0,-1,[],rfl,heap_new_at _ _ rfl,World.ownsRow_nil _ _ _ _,br0.alloc le0 _,by simp[World.iter],le0,ze0,by omega,by omega,HS.o.symm⟩
  case round=>
   obtain⟨pos,k,acc,rfl,hit,hown,hB,hsz,hal,hps,hk1,hk2,hg⟩:=hrel.ex;clear hrel;by_cases hp:pos<s.size
   ·have hnx: ∀ty,(Instr.next (.pointer (some ⟨w.heap.size,0,none⟩)) true ty).run prog wr=_:=fun ty=>Lib.run_next_any_at wr w.heap.size s pos ty hit hp;have hwd:=Lib.decode_width_pos s pos hp;have hwl:=decode_width_le s pos hp;have hB1:=Lib.below_iterAt hB (k:=w.heap.size) le0 s (pos+(Utf8.decode s pos).2);have hit1:=Lib.iterAt_heap wr w.heap.size s pos (pos+(Utf8.decode s pos).2) hit;have hsz1:w.heap.size+1<=(wr.iterAt w.heap.size s (pos+(Utf8.decode s pos).2)).heap.size:=by rw[Lib.iterAt_size];exact hsz
    have hown1:=ownsRow_iterAt hown (k:=w.heap.size) (by omega) s (pos+(Utf8.decode s pos).2);have hbad:badR ((Utf8.decode s pos).1:Int)=true->wordsB s=([],10):=fun h=>by rw[<-hg,wAt_bad s pos k acc hp h]
    have hno:=fun h=>wAt_blank_out s pos k acc hp h;have hin:=fun h=>wAt_blank_in s pos k acc hp h;have hfi:=fun h=>wAt_first s pos k acc hp h;have hmo:=fun h=>wAt_more s pos k acc hp h;rw[hg]at hno hin hfi hmo;have hps1:pos+(Utf8.decode s pos).2<=s.size:=hwl;have hpos1:pos<pos+(Utf8.decode s pos).2:=by omega
    have HIP:Hd (wr.iterPos w.heap.size=pos):=iterPos_of hit;generalize pos+(Utf8.decode s pos).2=pos1 at*;generalize hr:((Utf8.decode s pos).1:Int)=r at*;generalize wr.iterAt w.heap.size s pos1=W at*;have HBAD:=Lh hbad;have HNO:=Lh hno;have HIN:=Lh hin;have HFI:=Lh hfi;have HMO:=Lh hmo;have HIT:=Lh hit1;clear hbad hno hin hfi hmo hg hit hit1 hr hwd hwl hown hB hsz;have fin: ∀(W':World),Below w.heap.size w W'->badR r=true->WordsPost s w (.returned (.tuple #[.slice none 0 0,.int .i64 10])) W':=by
     intro W' hb h;unfold WordsPost;rw[HBAD.o h];exact⟨_,rfl,Sl.nil _ _ _,hb⟩
    have FIN:=Lh fin;clear fin;by_cases cb:badR r=true
    ·have fn:=fun W' hb=>FIN.o W' hb cb;have hcs:r=65533\/(r≠65533/\r<32/\r≠9):=by
      unfold badR at cb;simp only[Bool.or_eq_true,beq_iff_eq,Bool.and_eq_true,decide_eq_true_eq,Bool.not_eq_true',bq0]at cb;omega
     have FN:=Lh fn;clear fn cb;rcases hcs with c1|⟨c1,c2,c3⟩
     ·have h1:(r==65533)=true:=by rw[beq_iff_eq];exact c1
      go_wp2;go_ret2;exact FN.o _ hB1
     ·have h1:(r==65533)=false:=by rw[bq0];exact c1
      have h2:(r==9)=false:=by rw[bq0];exact c3
      go_wp2
      all_goals
       go_ret2;exact FN.o _ hB1
    ·have CB:Hd (badR r=false):=by unfold Hd;simpa using cb
     have hcs:r≠65533/\(r=9\/(r≠9/\ ¬r<32)):=by
      unfold badR at cb;simp only[Bool.or_eq_true,beq_iff_eq,Bool.and_eq_true,decide_eq_true_eq,Bool.not_eq_true',bq0]at cb;omega
     clear cb;obtain⟨c1,hcs⟩:=hcs;have h1:(r==65533)=false:=by rw[bq0];exact c1
     have hcs2:(r=9\/r=32)\/(r≠9/\ ¬r<32/\r≠32):=by omega
     clear hcs;rcases hcs2 with hbl|⟨c2,c3,c4⟩
     ·rcases hbl with rfl|rfl
      all_goals
       by_cases hk0:k<0
       ·have HN:=Lh (HNO.o CB.o (by first|exact .inr rfl|exact .inl rfl) hk0);go_wp2;go_roundw
        case rel=>exact⟨pos1,-1,acc,rfl,HIT.o,hown1,hB1,hsz1,by omega,hps1,by omega,fun h=>absurd h (by omega),HN.o.symm⟩
        case measure=>
         rw[iterPos_of HIT.o,HIP.o];omega
       ·have HN:=Lh (HIN.o CB.o (by first|exact .inr rfl|exact .inl rfl) hk0 (hk2 hk0));have hk3:=hk2 hk0;obtain⟨kn,rfl⟩: ∃n:Nat,k=(n:Int):=⟨k.toNat,by omega⟩;rw[Int.toNat_natCast]at hk3;have hal400:acc.length+1<=1000000:=by omega
        go_wp2_with (at_builtin;refine wpList_append_own _ rfl _ _ 65 rfl (w.heap.size+1) 9 i0 (.string {data:=#[]}) 1 16 underlying65 hi hz0 hz1 hz2 rfl (by decide) u4 acc.length (acc.map Value.string) rfl (hown1.alloc _) ⟨W.heap.size,0,none⟩ 1 1 [.string (s.extract kn pos)] rfl rfl (cell_one_newJ _ _ _) (by simp[Value.oneCell']) (by unfold maxLen;omega) (by omega) (by simp;omega) ?_;intro v1' w1 hown2 hgrow _)
        have hb1: ∀q,u4.ownBlock=some q->w.heap.size+1<=q:=fun q hq=>(hown1.lt q hq).1;have hB3:Below w.heap.size w w1:=(hB1.alloc (by omega) _).grown hgrow (by simp;omega) (fun q hq=>by have:=hb1 q hq;omega);have hit3:w1.heap[w.heap.size]? =some (.stringIter s pos1):=by
         rw[hgrow.block _ (by simp;omega) (fun e=>by have:=hb1 _ e.symm;omega),alloc_old _ _ _ (by omega)];exact HIT.o
        have hsz3:w.heap.size+1<=w1.heap.size:=by have:=hgrow.size;simp at this;omega
        go_roundw
        case rel=>exact⟨pos1,-1,acc++ [s.extract kn pos],rfl,hit3,by simpa using hown2,hB3,hsz3,by simp;omega,hps1,by omega,fun h=>absurd h (by omega),by rw[Int.toNat_natCast]at HN;exact HN.o.symm⟩
        case measure=>
         rw[iterPos_of hit3,HIP.o];omega
     ·have h2:(r==9)=false:=by rw[bq0];exact c2
      have h3:(r==32)=false:=by rw[bq0];exact c4
      by_cases hk0:k<0
      ·have HN:=Lh (HFI.o CB.o c4 c2 hk0);go_wp2;go_roundw
       case rel=>exact⟨pos1,(pos:Int),acc,rfl,HIT.o,hown1,hB1,hsz1,by omega,hps1,by omega,fun h=>by omega,HN.o.symm⟩
       case measure=>
        rw[iterPos_of HIT.o,HIP.o];omega
      ·have HN:=Lh (HMO.o CB.o c4 c2 hk0 (by have:=hk2 hk0;omega));go_wp2;go_roundw
       case rel=>exact⟨pos1,k,acc,rfl,HIT.o,hown1,hB1,hsz1,by omega,hps1,hk1,fun h=>by have:=hk2 h;omega,HN.o.symm⟩
       case measure=>
        rw[iterPos_of HIT.o,HIP.o];omega
   ·have hnx: ∀ty,(Instr.next (.pointer (some ⟨w.heap.size,0,none⟩)) true ty).run prog wr=_:=fun ty=>Lib.run_next_end_at wr w.heap.size s pos ty hit hp;obtain rfl:pos=s.size:=by omega
    by_cases hk0:k<0
    ·rw[wAt_end_out s s.size k acc le0 hk0]at hg;have HG:=Lh hg;have HO:=Lh (Sl.of_owns hown);clear hg;go_wp2;go_ret2;unfold WordsPost;rw[<-HG.o];exact⟨_,rfl,HO.o,hB⟩
    ·have hk3:=hk2 hk0;obtain⟨kn,rfl⟩: ∃n:Nat,k=(n:Int):=⟨k.toNat,by omega⟩;rw[wAt_end_in s s.size kn acc le0 hk0 hk3]at hg;rw[Int.toNat_natCast]at hg hk3;have HG:=Lh hg;clear hg;have hal400:acc.length+1<=1000000:=by omega
     go_wp2_with (at_builtin;refine wpList_append_own _ rfl _ _ 65 rfl (w.heap.size+1) 9 i0 (.string {data:=#[]}) 1 16 underlying65 hi hz0 hz1 hz2 rfl (by decide) u4 acc.length (acc.map Value.string) rfl (hown.alloc _) ⟨wr.heap.size,0,none⟩ 1 1 [.string (s.extract kn s.size)] rfl rfl (cell_one_newJ _ _ _) (by simp[Value.oneCell']) (by unfold maxLen;omega) (by omega) (by simp;omega) ?_;intro v1' w1 hown2 hgrow _)
     have hb1: ∀q,u4.ownBlock=some q->w.heap.size+1<=q:=fun q hq=>(hown.lt q hq).1;have hB3:Below w.heap.size w w1:=(hB.alloc (by omega) _).grown hgrow (by simp;omega) (fun q hq=>by have:=hb1 q hq;omega);have HO:=Lh (Sl.of_owns hown2);go_ret2;unfold WordsPost;rw[<-HG.o];refine⟨_,rfl,?_,hB3⟩;simpa using HO.o
