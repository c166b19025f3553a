/-
  Parts of the proof: B3.
-/
import Derived.Laws.IdiomStrings
import Derived.Laws.BytesArg
import Derived.Test.YtpkijdkoiecpiaaGreatDoorZS7
import Derived.Test.YtpkijdkoiecpiaaGreatDoorZS9
namespace Go.Proofs.YtpkijdkoiecpiaaGreatDoor
open Go.RowKit
set_option linter.unusedVariables false
set_option linter.unusedSimpArgs false
theorem info_u8B:(Tryz.prog.info? 5).map (fun i => (i.zero,i.size,i.bytes)) = some (some (.int .u8 0),1,1):=by kernel_rfl
def byteV (b:UInt8):Value := .int .u8 b.toNat
theorem conv_own {w:World} {base:Nat} {v:Value} {m:Nat} {bs:List UInt8} (h:w.ownsRow base 5 1 v m (bs.map byteV)):(convert 40 9 v).run Tryz.prog w = .ok (.string ⟨bs.toArray⟩) w:=by
 obtain ⟨h1,h2⟩:=h
 rw [List.length_map,Nat.mul_one] at h1
 rcases h2 with ⟨rfl,rfl⟩ | ⟨g,cap,cur,rfl,hb,hg,hn,hc,hs,ht⟩
 ·obtain rfl:bs = []:=List.length_eq_zero_iff.1 h1
  rw [run_convert_bytes_nil w 40 5 Tryz.underlying40 Tryz.underlying5 0 0 9 Tryz.underlying9]
  rfl
 ·subst h1
  refine run_convert_bytes_back w 40 9 5 ⟨g,0,none⟩ cap bs Tryz.underlying40 Tryz.underlying5 Tryz.underlying9 (fun j hj => ?_)
  rw [Addr.add_lit,Nat.zero_add,cell_of_row w g j cur 5 (0,0) hg]
  have:=congrArg (fun q => q[j]?) ht
  simp only [List.getElem?_take] at this
  rw [if_pos (by omega),List.getElem?_map,List.getElem?_eq_getElem hj] at this
  simpa [byteV] using this
theorem or_u8 (U:Nat):bits .or .u8 ((U:Int) % 256) 128 = ((U % 128 + 128:Nat):Int):=by
 have:∀ n:Fin 256,bits .or .u8 (n.val:Int) 128 = ((n.val % 128 + 128:Nat):Int):=by decide +kernel
 have h:=this ⟨U % 256,Nat.mod_lt _ (by omega)⟩
 have e:(((U % 256:Nat)):Int) = (U:Int) % 256:=by omega
 rw [← e]
 rw [h]
 show ((U % 256 % 128 + 128:Nat):Int) = _
 rw [Nat.mod_mod_of_dvd U (show 128 ∣ 256 by decide)]
theorem wrap_u8B (n:Int):IntKind.u8.wrap n = n % 256:=by simp [IntKind.wrap,IntKind.bits,IntKind.signed]
theorem cell_one_newB (w:World) (a:Value) (t:TypeId):∀ j u,[a][j]? = some u → (w.alloc (.cells #[a] t)).cell? ((⟨w.heap.size,0,none⟩:Addr).add j) = some u:=by
 intro j u hj
 have hj4:j < 1:=(List.getElem?_eq_some_iff.1 hj).1
 rw [Addr.add_lit,Nat.zero_add,(Blk.new w #[a] t).cell j]
 simpa using hj
structure PutRel (bs:List UInt8) (w:World) (s:Value) (wr:World):Prop where
 below:Below w.heap.size w wr
 own:wr.ownsRow w.heap.size 5 1 s bs.length (bs.map byteV)
theorem PutRel.snoc {Q:List UInt8} {w w4:World} {v':Value} {ql:Nat} {qs:List Value} (hb:Below w.heap.size w w4) (hql:Q.length = ql) (hqs:Q.map byteV = qs) (c:Nat) (hc:c < 256) (h:w4.ownsRow w.heap.size 5 1 v' (ql + 1) (qs ++ [.int .u8 (c:Int)])) :
  PutRel (Q ++ [UInt8.ofNat c]) w v' w4:=by
 refine ⟨hb, ?_⟩
 have e:byteV (UInt8.ofNat c) = .int .u8 (c:Int):=by
  unfold byteV
  have:(UInt8.ofNat c).toNat = c:=by simp; omega
  rw [this]
 rw [List.length_append,List.map_append,hql,hqs,List.map_cons,List.map_nil,e]
 exact h
theorem putL_take (l:List Int) (k:Nat) (hk:k < l.length):putL (l.take (k + 1)) = putL (l.take k) ++ putN l[k]:=by
 rw [putL,putL,List.take_succ_eq_append_getElem hk,List.flatMap_append,List.flatMap_cons,List.flatMap_nil,List.append_nil]
theorem putL_len (l:List Int) (hr:∀ z ∈ l, -9223372036854775808 ≤ z ∧ z ≤ 9223372036854775807):(putL l).length ≤ 10 * l.length:=by
 induction l with
 | nil => simp [putL]
 | cons z l ih =>
  have h1:=ih fun y hy => hr y (by simp [hy])
  have h2:=putN_len z (hr z (by simp)).1 (hr z (by simp)).2
  have e:putL (z :: l) = putN z ++ putL l:=rfl
  rw [e,List.length_append,List.length_cons]
  omega
set_option maxHeartbeats 4000000 in
theorem PutB_c (l:List Int) (n:Nat) (v:Value) (B:Nat) (w:World) (h:Sl w B 1 v n (l.map (Value.int .i64))) (hn:l.length = n) (hB:B ≤ w.heap.size) (hr:∀ z ∈ l, -9223372036854775808 ≤ z ∧ z ≤ 9223372036854775807) (hl:n ≤ 1000) :
  Calls Tryz.prog 99 #[v] w fun e w' => e = .returned (.string ⟨(putL l).toArray⟩) ∧ Below w.heap.size w w':=by
 have HS:=Lib.hid h
 have HR:=Lib.hid hr
 have HN:=Lib.hid hn
 obtain ⟨_,a,cap,rfl,hcap,hmx,hrest⟩:=id h
 clear h hr hn hrest
 rename_i hx
 clear hx
 have HPL:Hid (∀ k,k ≤ n → (putL (l.take k)).length ≤ 10 * n):=fun k hk => by
  have:=putL_len (l.take k) (fun y hy => HR.out y (List.mem_of_mem_take hy))
  have h2:=List.length_take_le k l
  have h3:=HN.out
  have h4:(l.take k).length ≤ n:=by rw [List.length_take]; omega
  omega
 obtain ⟨i0,hi,hz0,hz1,hz2⟩:=info_parts info_u8B
 go_enter Tryz.func99,Tryz.ntmps99
 go_wp2_with fail
 go_loopw [3,9] (fun s q wr => ∃ k:Nat,q = .int .i64 k ∧ k ≤ n ∧ PutRel (putL (l.take k)) w s wr) (fun _ q _ => n - (intOf q).toNat)
 case atStart => exact ⟨0,rfl,Nat.zero_le _,⟨Below.refl _ _,World.ownsRow_nil _ _ _ _⟩⟩
 case round =>
  obtain ⟨k,rfl,hk,hrel⟩:=hrel
  by_cases hlt:k < n
  ·obtain ⟨b,off,cp,e1,hb,hkl,p0⟩:=(HS.out.below (hrel.below.mono hB)).int k hlt
   simp only [Value.slice.injEq,true_and] at e1
   obtain ⟨rfl,rfl⟩:=e1
   have hz:=HR.out _ (List.getElem_mem hkl)
   have HTK:=Lib.hid (putL_take l k hkl)
   have hbd:=HPL.out k hk
   generalize l[k] = z at *
   generalize putL (l.take k) = P at *
   have hzl:=zig_lt z hz.1 hz.2
   have hpn:=putN_len z hz.1 hz.2
   have HPN:Hid (putN z = [] ++ vby (zig z)):=rfl
   go_wp2_with fail
   refine (turned_c z hz.1 hz.2 _).mono ?_
   rintro e w1 ⟨rfl,rfl⟩
   go_wp2_with fail
   generalize putN z = PN at *
   go_loopw [3,6] (fun s u wx => ∃ (U:Nat) (X:List UInt8),u = .int .u64 U ∧ U < 18446744073709551616 ∧ PutRel (P ++ X) w s wx ∧ PN = X ++ vby U) (fun _ u _ => (intOf u).toNat)
   case atStart => exact ⟨zig z,[],rfl,hzl,by rw [List.append_nil]; exact hrel,HPN.out⟩
   case round =>
    obtain ⟨U,X,rfl,hU,hin,hX⟩:=hrel
    have hown:=hin.own
    have hbel:=hin.below
    have hXl:X.length + (vby U).length ≤ 10:=by rw [← List.length_append, ← hX]; exact hpn
    have hPX:(P ++ X).length ≤ 10 * n + 10:=by rw [List.length_append]; omega
    have hww:=hbel.size
    generalize hQ:P ++ X = Q at *
    have HQ:=Lib.hid hQ
    have HX:=Lib.hid hX
    clear hQ hX hin
    generalize hqs:Q.map byteV = qs at *
    have HQS:=Lib.hid hqs
    generalize hql:Q.length = ql at *
    have HQL:=Lib.hid hql
    clear hqs hql
    by_cases hU8:128 ≤ U
    ·have d1:(128:Int) ≤ (U:Int):=by omega
     have hor:=or_u8 U
     have hor2:bits .or .u8 (IntKind.u8.wrap (U:Int)) 128 = ((U % 128 + 128:Nat):Int):=by rw [wrap_u8B]; exact hor
     have HV:Hid (vby U = UInt8.ofNat (U % 128 + 128) :: vby (U / 128)):=vby_ge (by omega)
     go_wp2_with (at_builtin; refine wpList_append_own _ rfl _ _ 40 rfl w.heap.size 5 i0 (.int .u8 0) 1 1 Tryz.underlying40 hi hz0 hz1 hz2 rfl (by decide) u3 ql qs rfl (hown.alloc _) ⟨wr.heap.size,0,none⟩ 1 1 [.int .u8 ((U % 128 + 128:Nat):Int)] rfl rfl (cell_one_newB _ _ _) (by simp [Value.oneCell']) (by unfold maxLen; omega) (by omega) (by simp; omega) ?_; intro v' w4 hown4 hgrow4 _)
     have hB4:Below w.heap.size w w4:=(hbel.alloc hww _).grown hgrow4 (by simp; omega) (fun q hq => (hown.lt q hq).1)
     have hsn:=PutRel.snoc hB4 HQL.out HQS.out (U % 128 + 128) (by omega) hown4
     go_roundw
     case rel =>
      refine ⟨U / 128,X ++ [UInt8.ofNat (U % 128 + 128)],by congr 1,by omega, ?_, ?_⟩
      ·rw [← List.append_assoc,HQ.out]
       exact hsn
      ·rw [HX.out,HV.out,List.append_assoc]
       rfl
     case measure =>
      have:U / 128 < U:=Nat.div_lt_self (by omega) (by decide)
      simp [intOf]
      omega
    ·have d1 : ¬ (128:Int) ≤ (U:Int):=by omega
     have hmo:(U:Int) % 256 = (U:Int):=by omega
     have hV:vby U = [UInt8.ofNat U]:=vby_lt (by omega)
     rw [hV] at HX
     go_wp2_with (at_builtin; refine wpList_append_own _ rfl _ _ 40 rfl w.heap.size 5 i0 (.int .u8 0) 1 1 Tryz.underlying40 hi hz0 hz1 hz2 rfl (by decide) u3 ql qs rfl (hown.alloc _) ⟨wr.heap.size,0,none⟩ 1 1 [.int .u8 (U:Int)] rfl rfl (by first | exact cell_one_newB _ _ _ | (rw [← hmo]; exact cell_one_newB _ _ _)) (by simp [Value.oneCell']) (by unfold maxLen; omega) (by omega) (by simp; omega) ?_; intro v' w4 hown4 hgrow4 _)
     have hB4:Below w.heap.size w w4:=(hbel.alloc hww _).grown hgrow4 (by simp; omega) (fun q hq => (hown.lt q hq).1)
     have hsn:=PutRel.snoc hB4 HQL.out HQS.out U (by omega) hown4
     go_roundw
     case rel =>
      refine ⟨k + 1,by go_num,by omega, ?_⟩
      rw [HTK.out,HX.out, ← List.append_assoc,HQ.out]
      exact hsn
     case measure => simp [intOf]; omega
  ·obtain rfl:k = n:=by omega
   have htl:l.take k = l:=List.take_of_length_le (by have:=HN.out; omega)
   rw [htl] at hrel
   have hconv:=conv_own hrel.own
   have hb:=hrel.below
   clear hrel htl
   go_wp2_with fail
   go_ret
   exact ⟨rfl,hb⟩
end Go.Proofs.YtpkijdkoiecpiaaGreatDoor
