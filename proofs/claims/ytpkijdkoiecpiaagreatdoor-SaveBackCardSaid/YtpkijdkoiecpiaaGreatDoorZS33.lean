/-
  Parts of the proof: P5.
-/
import Derived.Test.YtpkijdkoiecpiaaGreatDoorZS11
import Derived.Test.YtpkijdkoiecpiaaGreatDoorZS32
namespace Go.Proofs.YtpkijdkoiecpiaaGreatDoor
open Go.RowKit
set_option linter.unusedVariables false
set_option linter.unusedSimpArgs false
theorem one_conv (k:Nat) (hk:k < 256) (w:World) (b:Nat) (t:TypeId) (h:Blk w b t #[.int .u8 (k:Int)]):(convert 40 9 (.slice (some ⟨b,0,none⟩) 1 1)).run Tryz.prog w = .ok (.string (bstr [UInt8.ofNat k])) w:=by
 refine run_convert_bytes_back w 40 9 5 ⟨b,0,none⟩ 1 [UInt8.ofNat k] Tryz.underlying40 Tryz.underlying5 Tryz.underlying9 ?_
 intro j hj
 have hj0:j = 0:=by simpa using hj
 subst hj0
 rw [Addr.add_mid,Nat.zero_add,h.cell 0]
 show some (Value.int .u8 _) = some (Value.int .u8 ((UInt8.ofNat k).toNat:Int))
 congr 2
 simp
 omega
set_option maxRecDepth 100000 in
set_option maxHeartbeats 1000000 in
theorem FPut_c (k:Nat) (h0:0 < k) (h1:k < 256) (u:ByteArray) (hu:u.size ≤ 65536) (w:World):Calls Tryz.prog 97 #[.int .u8 (k:Int), .string u] w fun e w' => e = .returned (.tuple #[.string (bstr (frL k u)), .int .i64 0]) ∧ Below w.heap.size w w':=by
 have hk0:((k:Int) == 0) = false:=by rw [beq_eq_false_iff_ne]; omega
 have HT:=Lib.hid (PutText_c u hu w)
 have hlen:=(txtL_len u hu).1
 have HFR:Hid (frL k u = ([UInt8.ofNat k] ++ txtL u) ++ tailL (sumB ([UInt8.ofNat k] ++ txtL u))):=rfl
 have HLT:=Lib.hid (sumB_lt ([UInt8.ofNat k] ++ txtL u))
 have HBA:Hid (∀ l m,bstr l ++ bstr m = bstr (l ++ m)):=bstr_app
 have HSZ:Hid (∀ l,(bstr l).size = l.length):=bstr_size
 have HT2:Hid (Calls Tryz.prog 117 #[.string u] w fun e w' => e = .returned (.tuple #[.string (bstr (txtL u)), .int .i64 0]) ∧ Below w.heap.size w w'):=HT.out
 clear HT
 generalize frL k u = FL at *
 generalize txtL u = T at *
 go_enter Tryz.func97,Tryz.ntmps97
 go_upto_region 6 with (first | (go_at_call 117; refine HT2.out.mono ?_; rintro e w1 ⟨rfl,hb1⟩) | fail)
 have hB:=Blk.new w1 #[.int .u8 (k:Int)] 5
 have hconv:=one_conv k h1 _ _ _ hB
 have hsz1:(bstr [UInt8.ofNat k]).size = 1:=HSZ.out _
 have hsz2:(bstr T).size ≤ 65546:=by rw [HSZ.out]; omega
 obtain ⟨S,hS⟩:∃ S,bstr ([UInt8.ofNat k] ++ T) = S:=⟨_,rfl⟩
 have happ:bstr [UInt8.ofNat k] ++ bstr T = S:=(HBA.out _ _).trans hS
 have HSS:=Lib.hid hS
 clear hS
 go_upto_region 7 with fail
 have hszS:S.size ≤ 70000:=by rw [← HSS.out,HSZ.out,List.length_append,List.length_singleton]; omega
 have hB2:Below w.heap.size w (w1.alloc (.cells #[.int .u8 (k:Int)] 5)):=hb1.alloc hb1.size _
 clear hB hconv hsz1 hsz2 happ hb1 HT2
 have HL:Hid (S.data.toList = [UInt8.ofNat k] ++ T):=by show _ = _; rw [← HSS.out]; exact bstr_list _
 generalize World.alloc w1 _ = W at *
 have hBS:=Blk.new W #[.string S] 9
 have HO:=Lib.hid (sumOf_c S (by omega) W.heap.size (W.alloc (.cells #[.string S] 9)) (hBS.cell 0))
 rw [HL.out] at HO
 have HTL:=Lib.hid (ftail_c (sumB ([UInt8.ofNat k] ++ T)) HLT.out (W.alloc (.cells #[.string S] 9)))
 have htz:(bstr (tailL (sumB ([UInt8.ofNat k] ++ T)))).size = 4:=bstr_size _
 generalize sumB ([UInt8.ofNat k] ++ T) = sm at *
 clear hBS
 go_wp2_with (first | (go_at_call 147; refine HO.out.mono ?_; rintro e w3 ⟨rfl,rfl⟩) | (go_at_call 146; refine HTL.out.mono ?_; rintro e w4 ⟨rfl,hb4⟩) | fail)
 go_ret2
 refine ⟨?_,(hB2.alloc hB2.size _).trans (hb4.mono (by have:=hB2.size; simp; omega))⟩
 rw [HFR.out, ← HBA.out,HSS.out]
 rfl
theorem takeF_at (s:ByteArray) (h:0 < s.size):takeF s = if (s[0]'h).toNat = 0 then ((0, .empty,0,21):Nat × ByteArray × Int × Int) else
  if (takeT (s.extract 1 s.size)).2.2 ≠ 0 then (0, .empty,0,(takeT (s.extract 1 s.size)).2.2) else
  if (s.size:Int) < (takeT (s.extract 1 s.size)).2.1 + 5 then (0, .empty,0,20) else
  if (s.data.toList.drop ((takeT (s.extract 1 s.size)).2.1 + 1).toNat).take 4 ≠ tailL (sumB (s.data.toList.take ((takeT (s.extract 1 s.size)).2.1 + 1).toNat)) then (0, .empty,0,40) else
  ((s[0]'h).toNat,(takeT (s.extract 1 s.size)).1,(takeT (s.extract 1 s.size)).2.1 + 5,0):=by
 have hl:0 < s.data.toList.length:=by rw [← Lib.size_eq]; exact h
 have e:s.data.toList = s[0] :: s.data.toList.drop 1:=by
  have:=List.drop_eq_getElem_cons hl
  rw [List.drop_zero] at this
  exact this
 unfold takeF
 conv => lhs; rw [e]
 dsimp only
 rw [← e]
theorem neq_str (a b:ByteArray) (w:World):(binOp .neq 9 (.string a) (.string b)).run Tryz.prog w = .ok (.bool (!(a.toList == b.toList))) w:=by
 simp [go_sem]
theorem neq_dec (a b:ByteArray) (l m:List UInt8) (ha:a.data.toList = l) (hb:b.data.toList = m):(!(a.toList == b.toList)) = decide (l ≠ m):=by
 subst ha; subst hb
 rw [ByteArray.toList_eq,ByteArray.toList_eq]
 by_cases h:a.data.toList = b.data.toList
 ·simp [h]
 ·have:(a.data.toList == b.data.toList) = false:=by rw [beq_eq_false_iff_ne]; exact h
  rw [this]
  simp [h]
theorem results_tmp4 {fn:Func} {t u v x:Tmp} (h:fn.results = #[.tmp t, .tmp u, .tmp v, .tmp x]) (tmps:Array Value) (P:Program) (w:World) :
  (results fn tmps).run P w = .ok (.tuple #[tmps.getD t undef,tmps.getD u undef,tmps.getD v undef,tmps.getD x undef]) w:=by
 simp [results,h]
theorem takeF_zero (s:ByteArray) (h:s.size = 0):takeF s = (0, .empty,0,20):=by
 have:s.data.toList = []:=by
  rw [← List.length_eq_zero_iff, ← Lib.size_eq]; exact h
 unfold takeF
 rw [this]
set_option maxRecDepth 100000 in
set_option maxHeartbeats 2000000 in
theorem FTake_c (s:ByteArray) (hs:s.size ≤ 140737488355328) (w:World):Calls Tryz.prog 88 #[.string s] w fun e w' => e = .returned (.tuple #[.int .u8 ((takeF s).1:Nat), .string (takeF s).2.1, .int .i64 (takeF s).2.2.1, .int .i64 (takeF s).2.2.2]) ∧ Below w.heap.size w w':=by
 by_cases h0:s.size = 0
 ·rw [takeF_zero s h0]
  obtain rfl:s = { data:=#[] }:=by apply ByteArray.ext; exact Array.eq_empty_of_size_eq_zero h0
  go_enter Tryz.func88,Tryz.ntmps88
  go_wp2_with fail
  ((try simp only [Exit.inBlock,Exit.then]); refine bodyPost_ret (results_tmp4 rfl _ _ _) rfl ?_)
  exact ⟨rfl,Below.refl _ _⟩
 have hpos:0 < s.size:=by omega
 have hq:s.toList.isEmpty = false:=by
  rw [List.isEmpty_eq_false_iff]
  intro e
  have h1:s = { data:=#[] }:=(bytes_inj s { data:=#[] }).1 (e.trans (by kernel_rfl))
  rw [h1] at hpos
  exact absurd hpos (by decide)
 have HE:=Lib.hid (takeF_at s hpos)
 generalize takeF s = R at *
 have hc8:(s[0]).toNat < 256:=(s[0]).toNat_lt
 have HIX:Hid (s[0] = s[0]):=rfl
 have HTT:=Lib.hid (TakeText_c (s.extract 1 s.size) (by rw [ByteArray.size_extract]; omega))
 obtain ⟨m,hm,hms⟩:=takeT_le (s.extract 1 s.size)
 have hms2:m + 1 ≤ s.size:=by rw [ByteArray.size_extract] at hms; omega
 generalize hT:takeT (s.extract 1 s.size) = T at *
 obtain ⟨u,mz,er⟩:=T
 dsimp only at hm HTT HE
 subst hm
 clear hms
 generalize hx:s[0] = x at *
 by_cases hz:x.toNat = 0
 ·have HR:Hid (R = (0, .empty,0,21)):=by show _ = _; rw [HE.out,if_pos hz]
  have d0:((x.toNat:Int) == 0) = true:=by rw [beq_iff_eq]; omega
  clear HE hz
  go_enter Tryz.func88,Tryz.ntmps88
  go_wp2_with fail
  ((try simp only [Exit.inBlock,Exit.then]); refine bodyPost_ret (results_tmp4 rfl _ _ _) rfl ?_)
  rw [HR.out]
  exact ⟨rfl,Below.refl _ _⟩
 rw [if_neg hz] at HE
 have d0:((x.toNat:Int) == 0) = false:=by rw [beq_eq_false_iff_ne]; omega
 clear hz
 have hcut:s.extract 1 s.size = s.extract 1 s.size:=rfl
 by_cases he:er = 0
 ·subst he
  rw [if_neg (by simp)] at HE
  by_cases hl:(s.size:Int) < (m:Int) + 5
  ·rw [if_pos hl] at HE
   have d1:decide ((s.size:Int) < (m:Int) + 1 + 4) = true:=decide_eq_true (by omega)
   go_enter Tryz.func88,Tryz.ntmps88
   go_wp2_with (first | (go_at_call 92; refine (HTT.out _).mono ?_; rintro e w1 ⟨rfl,rfl⟩) | fail)
   ((try simp only [Exit.inBlock,Exit.then]); refine bodyPost_ret (results_tmp4 rfl _ _ _) rfl ?_)
   rw [HE.out]
   exact ⟨rfl,Below.refl _ _⟩
  ·rw [if_neg hl] at HE
   have d1:decide ((s.size:Int) < (m:Int) + 1 + 4) = false:=decide_eq_false (by omega)
   have d2:(m:Int) + 1 + 4 ≤ (s.size:Int):=by omega
   have d3:(0:Int) ≤ (m:Int) + 1:=by omega
   have d4:(0:Int) ≤ (m:Int) + 1 + 4:=by omega
   have d5:(m:Int) + 1 ≤ (m:Int) + 1 + 4:=by omega
   have d6:(m:Int) + 1 ≤ (s.size:Int):=by omega
   have d7:(m:Int) + 5 ≤ (s.size:Int):=by omega
   have d8:(m:Int) + 1 ≤ (m:Int) + 5:=by omega
   go_enter Tryz.func88,Tryz.ntmps88
   go_upto_region 11 with (first | (go_at_call 92; refine (HTT.out _).mono ?_; rintro e w1 ⟨rfl,rfl⟩) | fail)
   have hm1:((m:Int) + 1).toNat = m + 1:=by omega
   rw [hm1] at HE
   obtain ⟨q,hq1⟩:∃ q:Nat,q = m + 1:=⟨_,rfl⟩
   have hq2:(m:Int) + 1 = (q:Int):=by omega
   have hq5:(m:Int) + 5 = (q:Int) + 4:=by omega
   rw [hq2]
   rw [← hq1,hq5] at HE
   have e1:q + 4 ≤ s.size:=by omega
   have e2:(q:Int) + 4 ≤ (s.size:Int):=by omega
   have e3:q ≤ s.size:=by omega
   have e4:IntKind.i64.wrap ((q:Int) + 4) = (q:Int) + 4:=by rw [IntKind.wrap_i64]; omega
   have e5:(0:Int) ≤ (q:Int) + 4:=by omega
   have e6:(q:Int) ≤ (q:Int) + 4:=by omega
   have e7:((q:Int) + 4).toNat = q + 4:=by omega
   clear d1 d2 d3 d4 d5 d6 d7 d8 hl hm1 hq2 hq5 hms2 HTT hT hq1
   have HLS:Hid ((s.extract 0 q).data.toList = s.data.toList.take q):=by
    have:=extract_list s 0 q
    rwa [Nat.zero_add,List.drop_zero] at this
   have HL4:Hid ((s.extract q (q + 4)).data.toList = (s.data.toList.drop q).take 4):=extract_list s q 4
   have HSZ:Hid ((s.extract 0 q).size ≤ 140737488355328):=by show _ ≤ _; rw [ByteArray.size_extract]; omega
   have HO:Hid (∀ W:World,W.cell? ⟨w.heap.size,0,none⟩ = some (.string (s.extract 0 q)) → Calls Tryz.prog 147 #[.slice (some ⟨w.heap.size,0,none⟩) 1 1] W fun e w' => e = .returned (.int .u32 (sumB (s.data.toList.take q))) ∧ W = w'):=by
    intro W hW
    have:=sumOf_c (s.extract 0 q) HSZ.out w.heap.size W hW
    rwa [HLS.out] at this
   have HTL:=Lib.hid (ftail_c (sumB (s.data.toList.take q)) (sumB_lt _))
   generalize sumB (s.data.toList.take q) = sm at *
   have hbin:∀ w:World,(binOp .neq 9 (.string (s.extract q (q + 4))) (.string (bstr (tailL sm)))).run Tryz.prog w = .ok (.bool (decide ((s.data.toList.drop q).take 4 ≠ tailL sm))) w:=fun w => by rw [neq_str,neq_dec _ _ _ _ HL4.out (bstr_list _)]
   generalize hbb:decide ((s.data.toList.drop q).take 4 ≠ tailL sm) = bb at *
   have HBB:=Lib.hid hbb
   clear hbb
   go_cut [32] (fun s32 wx => Below w.heap.size w wx ∧ s32 = .bool bb)
   case first =>
    go_region_with (first | (go_at_call 147; refine (HO.out _ (by first | exact (Blk.new w _ _).cell 0 | exact (Blk.new w.drew _ _).cell 0)).mono ?_; rintro e w3 ⟨rfl,rfl⟩) | (go_at_call 146; refine (HTL.out _).mono ?_; rintro e w4 ⟨rfl,hb4⟩))
    all_goals
     go_wp2_with fail
     go_meet
     refine ⟨?_,by first | rfl | (rw [neq_dec _ _ _ _ HL4.out (bstr_list _),HBB.out])⟩
     exact (((Below.refl w.heap.size w).alloc (Nat.le_refl _) _).drew).trans (hb4.mono (by show _ ≤ (w.alloc _).heap.size; simp))
   case rest =>
   obtain ⟨hBc,rfl⟩:=hcut
   clear hbin HO HTL
   cases bb
   ·have hne : ¬ (List.take 4 (List.drop q s.data.toList) ≠ tailL sm):=of_decide_eq_false HBB.out
    rw [if_neg hne] at HE
    clear hne HBB
    go_wp2_with fail
    ((try simp only [Exit.inBlock,Exit.then]); refine bodyPost_ret (results_tmp4 rfl _ _ _) rfl ?_)
    rw [HE.out]
    exact ⟨rfl,hBc⟩
   ·have hne:List.take 4 (List.drop q s.data.toList) ≠ tailL sm:=of_decide_eq_true HBB.out
    rw [if_pos hne] at HE
    clear hne HBB
    go_wp2_with fail
    ((try simp only [Exit.inBlock,Exit.then]); refine bodyPost_ret (results_tmp4 rfl _ _ _) rfl ?_)
    rw [HE.out]
    exact ⟨rfl,hBc⟩
 ·rw [if_pos he] at HE
  have d1:(er != 0) = true:=by simpa using he
  clear he
  go_enter Tryz.func88,Tryz.ntmps88
  go_wp2_with (first | (go_at_call 92; refine (HTT.out _).mono ?_; rintro e w1 ⟨rfl,rfl⟩) | fail)
  ((try simp only [Exit.inBlock,Exit.then]); refine bodyPost_ret (results_tmp4 rfl _ _ _) rfl ?_)
  rw [HE.out]
  exact ⟨rfl,Below.refl _ _⟩
end Go.Proofs.YtpkijdkoiecpiaaGreatDoor
