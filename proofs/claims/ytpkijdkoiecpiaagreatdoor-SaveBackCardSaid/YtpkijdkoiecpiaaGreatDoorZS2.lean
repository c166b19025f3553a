/-
  Parts of the proof: B0 BP M0 O1.
-/
import Derived.Lib.VarintBits
import Derived.Laws.Bits64
import Derived.Test.YtpkijdkoiecpiaaGreatDoorZS1
namespace Go.Proofs.YtpkijdkoiecpiaaGreatDoor
open Go.RowKit
set_option linter.unusedVariables false
set_option linter.unusedSimpArgs false
def zig (n:Int):Nat:=if 0 ≤ n then (2 * n).toNat else (-2 * n - 1).toNat
def unzig (u:Nat):Int:=if u % 2 = 0 then ((u / 2:Nat):Int) else -((u / 2:Nat):Int) - 1
theorem unzig_zig (n:Int):unzig (zig n) = n:=by
 unfold zig unzig
 by_cases h:0 ≤ n
 ·rw [if_pos h,if_pos (by omega)]; omega
 ·rw [if_neg h,if_neg (by omega)]; omega
theorem zig_unzig (u:Nat):zig (unzig u) = u:=by
 unfold zig unzig
 by_cases h:u % 2 = 0
 ·rw [if_pos h,if_pos (by omega)]; omega
 ·rw [if_neg h,if_neg (by omega)]; omega
theorem zig_lt (n:Int) (h1 : -9223372036854775808 ≤ n) (h2:n ≤ 9223372036854775807):zig n < 18446744073709551616:=by
 unfold zig
 split <;> omega
theorem unzig_ir (u:Nat) (h:u < 18446744073709551616) : -9223372036854775808 ≤ unzig u ∧ unzig u ≤ 9223372036854775807:=by
 unfold unzig
 split <;> omega
def vby (u:Nat):List UInt8:=if h:u < 128 then [UInt8.ofNat u] else UInt8.ofNat (u % 128 + 128) :: vby (u / 128)
termination_by u
decreasing_by omega
theorem vby_lt {u:Nat} (h:u < 128):vby u = [UInt8.ofNat u]:=by rw [vby,dif_pos h]
theorem vby_ge {u:Nat} (h : ¬ u < 128):vby u = UInt8.ofNat (u % 128 + 128) :: vby (u / 128):=by rw [vby,dif_neg h]
def putN (n:Int):List UInt8:=vby (zig n)
def putL (l:List Int):List UInt8:=l.flatMap putN
theorem vby_len:∀ (k u:Nat),u < 128 ^ (k + 1) → (vby u).length ≤ k + 1
 | 0,u,h => by rw [vby_lt (by simpa using h)]; simp
 | k + 1,u,h => by
  by_cases hu:u < 128
  ·rw [vby_lt hu]; simp
  ·rw [vby_ge hu,List.length_cons]
   have:u / 128 < 128 ^ (k + 1):=by
    rw [Nat.pow_succ] at h
    exact Nat.div_lt_of_lt_mul (by rw [Nat.mul_comm]; exact h)
   have:=vby_len k _ this
   omega
theorem putN_len (n:Int) (h1 : -9223372036854775808 ≤ n) (h2:n ≤ 9223372036854775807):(putN n).length ≤ 10:=by
 have h:=zig_lt n h1 h2
 exact vby_len 9 _ (by omega)
def tkGo:Nat → Nat → List UInt8 → Int × Int × Int
 | _,_,[] => (0,0,20)
 | i,u,c :: cs =>
  if i = 9 ∧ 1 < c.toNat then (0,0,21)
  else if 128 ≤ c.toNat then tkGo (i + 1) (u + c.toNat % 128 * 2 ^ (7 * i)) cs
  else if c.toNat = 0 ∧ 0 < i then (0,0,21)
  else (unzig (u + c.toNat % 128 * 2 ^ (7 * i)),((i + 1:Nat):Int),0)
def takeS (s:ByteArray):Int × Int × Int:=tkGo 0 0 s.data.toList
theorem tkGo_vby:∀ (d u i a:Nat) (rest:List UInt8),i + d = 9 → u < 2 ^ (64 - 7 * i) → (0 < i → 0 < u) → tkGo i a (vby u ++ rest) = (unzig (a + u * 2 ^ (7 * i)),((i + (vby u).length:Nat):Int),0)
 | d,u,i,a,rest,hd,hu,h0 => by
  by_cases h:u < 128
  ·have hc:(UInt8.ofNat u).toNat = u:=by simp; omega
   rw [vby_lt h,List.singleton_append]
   simp only [tkGo,hc]
   rw [if_neg (by
    rintro ⟨rfl,h1⟩
    have:u < 2 ^ 1:=by simpa using hu
    omega),if_neg (by omega),if_neg (by omega),Nat.mod_eq_of_lt h]
   simp
  ·have hc:(UInt8.ofNat (u % 128 + 128)).toNat = u % 128 + 128:=by simp; omega
   have hi:i ≠ 9:=by
    rintro rfl
    have:u < 2 ^ 1:=by simpa using hu
    omega
   rw [vby_ge h,List.cons_append]
   simp only [tkGo,hc]
   rw [if_neg (by omega),if_pos (by omega)]
   obtain ⟨d',rfl⟩:∃ d',d = d' + 1:=⟨d - 1,by omega⟩
   have hu':u / 128 < 2 ^ (64 - 7 * (i + 1)):=by
    have e:64 - 7 * i = (64 - 7 * (i + 1)) + 7:=by omega
    rw [e,Nat.pow_add] at hu
    exact Nat.div_lt_of_lt_mul (by rw [Nat.mul_comm]; exact hu)
   rw [tkGo_vby d' (u / 128) (i + 1) _ rest (by omega) hu' (fun _ => by omega)]
   have e1:(u % 128 + 128) % 128 = u % 128:=by omega
   have e2:2 ^ (7 * (i + 1)) = 128 * 2 ^ (7 * i):=by
    rw [show 7 * (i + 1) = 7 + 7 * i by omega,Nat.pow_add]
   rw [e1,e2]
   have e3:a + u % 128 * 2 ^ (7 * i) + u / 128 * (128 * 2 ^ (7 * i)) = a + u * 2 ^ (7 * i):=by
    rw [Nat.add_assoc, ← Nat.mul_assoc, ← Nat.add_mul]
    congr 2
    omega
   rw [e3]
   simp only [Prod.mk.injEq,List.length_cons,and_true,true_and]
   omega
termination_by d u => u
decreasing_by omega
theorem take_put (n:Int) (h1 : -9223372036854775808 ≤ n) (h2:n ≤ 9223372036854775807) (rest:List UInt8):tkGo 0 0 (putN n ++ rest) = (n,((putN n).length:Int),0):=by
 unfold putN
 have h:=zig_lt n h1 h2
 rw [tkGo_vby 9 _ 0 0 rest rfl (by omega) (fun h => by omega)]
 simp [unzig_zig]
theorem tkGo_back:∀ (cs:List UInt8) (i a:Nat) (n sz:Int),i ≤ 9 → tkGo i a cs = (n,sz,0) → ∃ (u k:Nat),n = unzig (a + u * 2 ^ (7 * i)) ∧ sz = ((i + k:Nat):Int) ∧ k ≤ cs.length ∧ 0 < k ∧ cs.take k = vby u ∧ (0 < i → 0 < u) ∧ u < 2 ^ (64 - 7 * i)
 | [],i,a,n,sz,_,h => by simp [tkGo] at h
 | c :: cs,i,a,n,sz,hi,h => by
  have hc8:c.toNat < 256:=c.toNat_lt
  simp only [tkGo] at h
  by_cases h1:i = 9 ∧ 1 < c.toNat
  ·rw [if_pos h1] at h; simp at h
  ·rw [if_neg h1] at h
   by_cases h2:128 ≤ c.toNat
   ·rw [if_pos h2] at h
    have hi9:i ≠ 9:=fun e => h1 ⟨e,by omega⟩
    obtain ⟨u,k,e1,e2,e3,e0,e4,e5,e6⟩:=tkGo_back cs (i + 1) _ n sz (by omega) h
    have hu0:=e5 (by omega)
    have g1:sz = ((i + (k + 1):Nat):Int):=by rw [e2]; congr 1; omega
    have g2:k + 1 ≤ (c :: cs).length:=by rw [List.length_cons]; omega
    refine ⟨c.toNat % 128 + 128 * u,k + 1, ?_,g1,g2,by omega, ?_,fun _ => by omega, ?_⟩
    ·rw [e1]
     congr 1
     rw [show 7 * (i + 1) = 7 + 7 * i by omega,Nat.pow_add,Nat.add_mul,Nat.add_assoc]
     congr 2
     rw [show (2:Nat) ^ 7 = 128 from rfl, ← Nat.mul_assoc,Nat.mul_comm u 128]
    ·have q0 : ¬ c.toNat % 128 + 128 * u < 128:=by omega
     rw [List.take_succ_cons,e4,vby_ge q0]
     have q1:(c.toNat % 128 + 128 * u) % 128 + 128 = c.toNat:=by omega
     have q2:(c.toNat % 128 + 128 * u) / 128 = u:=by omega
     rw [q1,q2]
     simp
    ·have e:64 - 7 * i = (64 - 7 * (i + 1)) + 7:=by omega
     rw [e,Nat.pow_add]
     have:u + 1 ≤ 2 ^ (64 - 7 * (i + 1)):=e6
     have h7:(2:Nat) ^ 7 = 128:=rfl
     rw [h7]
     have:=Nat.mul_le_mul_right 128 this
     omega
   ·rw [if_neg h2] at h
    by_cases h3:c.toNat = 0 ∧ 0 < i
    ·rw [if_pos h3] at h; simp at h
    ·rw [if_neg h3] at h
     simp only [Prod.mk.injEq,and_true] at h
     have hm:c.toNat % 128 = c.toNat:=Nat.mod_eq_of_lt (by omega)
     rw [hm] at h
     refine ⟨c.toNat,1,h.1.symm,h.2.symm,by simp,by omega, ?_,fun hi0 => by omega, ?_⟩
     ·rw [vby_lt (by omega)]
      simp
     ·by_cases hi9:i = 9
      ·subst hi9
       have:c.toNat < 2 ^ 1:=by omega
       simpa using this
      ·have:2 ^ 7 ≤ 2 ^ (64 - 7 * i):=Nat.pow_le_pow_right (by omega) (by omega)
       have h7:(2:Nat) ^ 7 = 128:=rfl
       omega
theorem take_back {cs:List UInt8} {n sz:Int} (h:tkGo 0 0 cs = (n,sz,0)):∃ k:Nat,sz = (k:Int) ∧ k ≤ cs.length ∧ 0 < k ∧ cs.take k = putN n ∧ -9223372036854775808 ≤ n ∧ n ≤ 9223372036854775807:=by
 obtain ⟨u,k,e1,e2,e3,e0,e4,_,e6⟩:=tkGo_back cs 0 0 n sz (by omega) h
 have en:n = unzig u:=by simpa using e1
 have hr:=unzig_ir u (by simpa using e6)
 refine ⟨k,by simpa using e2,e3,e0, ?_,by rw [en]; exact hr⟩
 unfold putN
 rw [e4,en,zig_unzig]
theorem tkGo_err:∀ (cs:List UInt8) (i a:Nat),(tkGo i a cs).2.2 ≠ 0 → (tkGo i a cs).1 = 0 ∧ (tkGo i a cs).2.1 = 0
 | [],i,a,_ => ⟨rfl,rfl⟩
 | c :: cs,i,a,h => by
  simp only [tkGo] at h ⊢
  split
  ·exact ⟨rfl,rfl⟩
  ·rename_i h1
   rw [if_neg h1] at h
   split
   ·rename_i h2
    rw [if_pos h2] at h
    exact tkGo_err cs _ _ h
   ·rename_i h2
    rw [if_neg h2] at h
    split
    ·exact ⟨rfl,rfl⟩
    ·rename_i h3
     rw [if_neg h3] at h
     exact absurd rfl h
theorem or7 (i:Nat) (hi:i ≤ 9) (a c:Nat) (ha:a < 2 ^ (7 * i)) (hc:c * 2 ^ (7 * i) < 18446744073709551616):bits .or .u64 (a:Int) ((c * 2 ^ (7 * i):Nat):Int) = ((a + c * 2 ^ (7 * i):Nat):Int):=by
 have hm:∀ P:Nat,((c * P:Nat):Int) % (P:Int) = 0:=fun P => by
  rw [Int.natCast_mul]
  exact Int.mul_emod_left _ _
 rw [Int.natCast_add]
 have hcs:i = 0 ∨ i = 1 ∨ i = 2 ∨ i = 3 ∨ i = 4 ∨ i = 5 ∨ i = 6 ∨ i = 7 ∨ i = 8 ∨ i = 9:=by omega
 rcases hcs with rfl | rfl | rfl | rfl | rfl | rfl | rfl | rfl | rfl | rfl
 ·exact u64_orv0 _ _ (by omega) (by simp at ha; omega) (by omega) (Int.emod_one _) (by omega)
 ·exact u64_orv7 _ _ (by omega) (by omega) (by omega) (hm 128) (by omega)
 ·exact u64_orv14 _ _ (by omega) (by omega) (by omega) (hm 16384) (by omega)
 ·exact u64_orv21 _ _ (by omega) (by omega) (by omega) (hm 2097152) (by omega)
 ·exact u64_orv28 _ _ (by omega) (by omega) (by omega) (hm 268435456) (by omega)
 ·exact u64_orv35 _ _ (by omega) (by omega) (by omega) (hm 34359738368) (by omega)
 ·exact u64_orv42 _ _ (by omega) (by omega) (by omega) (hm 4398046511104) (by omega)
 ·exact u64_orv49 _ _ (by omega) (by omega) (by omega) (hm 562949953421312) (by omega)
 ·exact u64_orv56 _ _ (by omega) (by omega) (by omega) (hm 72057594037927936) (by omega)
 ·exact u64_orv63 _ _ (by omega) (by omega) (by omega) (hm 9223372036854775808) (by omega)
def bstr (l:List UInt8):ByteArray:=⟨l.toArray⟩
theorem bstr_app (l m:List UInt8):bstr l ++ bstr m = bstr (l ++ m):=by
 apply ByteArray.ext
 rw [ByteArray.data_append]
 unfold bstr
 simp
theorem bstr_size (l:List UInt8):(bstr l).size = l.length:=by show l.toArray.size = _; simp
theorem bstr_list (l:List UInt8):(bstr l).data.toList = l:=by simp [bstr]
theorem bstr_of (s:ByteArray):bstr s.data.toList = s:=by apply ByteArray.ext; simp [bstr]
theorem cut_list (s:ByteArray) (k:Nat):(s.extract k s.size).data.toList = s.data.toList.drop k:=by
 have h:s.size = s.data.toList.length:=by rw [Lib.size_eq]
 rw [ByteArray.data_extract,Array.toList_extract]
 show (s.data.toList.drop k).take (s.size - k) = _
 rw [List.take_of_length_le (by rw [List.length_drop]; omega)]
theorem cut_bstr (l:List UInt8) (k:Nat):(bstr l).extract k (bstr l).size = bstr (l.drop k):=by
 rw [← bstr_of ((bstr l).extract k (bstr l).size),cut_list,bstr_list]
theorem takeS_bstr (l:List UInt8):takeS (bstr l) = tkGo 0 0 l:=by unfold takeS; rw [bstr_list]
theorem tkGo_short:∀ (k d u i a:Nat),i + d = 9 → u < 2 ^ (64 - 7 * i) → k < (vby u).length → tkGo i a ((vby u).take k) = (0,0,20)
 | 0,d,u,i,a,_,_,_ => by simp [tkGo]
 | k + 1,d,u,i,a,hd,hu,hk => by
  have h : ¬ u < 128:=fun h => by rw [vby_lt h] at hk; simp at hk
  have hc:(UInt8.ofNat (u % 128 + 128)).toNat = u % 128 + 128:=by simp; omega
  have hi:i ≠ 9:=by
   rintro rfl
   have:u < 2 ^ 1:=by simpa using hu
   omega
  rw [vby_ge h] at hk ⊢
  rw [List.take_succ_cons]
  simp only [tkGo,hc]
  rw [if_neg (by omega),if_pos (by omega)]
  obtain ⟨d',rfl⟩:∃ d',d = d' + 1:=⟨d - 1,by omega⟩
  have hu':u / 128 < 2 ^ (64 - 7 * (i + 1)):=by
   have e:64 - 7 * i = (64 - 7 * (i + 1)) + 7:=by omega
   rw [e,Nat.pow_add] at hu
   exact Nat.div_lt_of_lt_mul (by rw [Nat.mul_comm]; exact hu)
  exact tkGo_short k d' (u / 128) (i + 1) _ (by omega) hu' (by simpa using hk)
theorem take_short (n:Int) (h1 : -9223372036854775808 ≤ n) (h2:n ≤ 9223372036854775807) (k:Nat) (hk:k < (putN n).length):tkGo 0 0 ((putN n).take k) = (0,0,20):=by
 have h:=zig_lt n h1 h2
 exact tkGo_short k 9 _ 0 0 rfl (by omega) hk
theorem extract_list (s:ByteArray) (a n:Nat):(s.extract a (a + n)).data.toList = (s.data.toList.drop a).take n:=by
 rw [ByteArray.data_extract,Array.toList_extract]
 simp [List.extract]
def txtL (u:ByteArray):List UInt8:=putN (u.size:Int) ++ u.data.toList
def takeT (s:ByteArray):ByteArray × Int × Int :=
 if (takeS s).2.2 ≠ 0 then (.empty,0,(takeS s).2.2)
 else if (takeS s).1 < 0 then (.empty,0,21)
 else if 65536 < (takeS s).1 then (.empty,0,3)
 else if (s.size:Int) < (takeS s).2.1 + (takeS s).1 then (.empty,0,20)
 else (s.extract (takeS s).2.1.toNat ((takeS s).2.1.toNat + (takeS s).1.toNat),(takeS s).2.1 + (takeS s).1,0)
theorem takeT_put (u:ByteArray) (hu:u.size ≤ 65536) (rest:List UInt8):takeT (bstr (txtL u ++ rest)) = (u,((txtL u).length:Int),0):=by
 have hl:=Lib.size_eq u
 have e:takeS (bstr (txtL u ++ rest)) = ((u.size:Int),((putN (u.size:Int)).length:Int),0):=by
  rw [takeS_bstr]
  unfold txtL
  rw [List.append_assoc]
  exact take_put _ (by omega) (by omega) _
 have hz:(bstr (txtL u ++ rest)).size = (putN (u.size:Int)).length + u.size + rest.length:=by
  rw [bstr_size]; unfold txtL; simp only [List.length_append]; omega
 have hq:(txtL u).length = (putN (u.size:Int)).length + u.size:=by unfold txtL; rw [List.length_append,hl]
 unfold takeT
 rw [e]
 dsimp only
 rw [if_neg (by simp),if_neg (by omega),if_neg (by omega),if_neg (by omega)]
 refine Prod.ext ?_ (Prod.ext ?_ rfl)
 ·dsimp only
  rw [← bstr_of (ByteArray.extract _ _ _),Int.toNat_natCast,Int.toNat_natCast,extract_list,bstr_list]
  unfold txtL
  rw [List.append_assoc,List.drop_left,List.take_left' hl.symm,bstr_of]
 ·dsimp only; omega
theorem takeT_back (s:ByteArray) (h:(takeT s).2.2 = 0):(takeT s).1.size ≤ 65536 ∧ (takeT s).2.1 = ((txtL (takeT s).1).length:Int) ∧ ∃ rest,s.data.toList = txtL (takeT s).1 ++ rest:=by
 unfold takeT at h ⊢
 by_cases e0:(takeS s).2.2 = 0
 ·rw [if_neg (by simpa using e0)] at h ⊢
  by_cases e1:(takeS s).1 < 0
  ·rw [if_pos e1] at h; exact absurd h (by decide)
  rw [if_neg e1] at h ⊢
  by_cases e2:65536 < (takeS s).1
  ·rw [if_pos e2] at h; exact absurd h (by decide)
  rw [if_neg e2] at h ⊢
  by_cases e3:(s.size:Int) < (takeS s).2.1 + (takeS s).1
  ·rw [if_pos e3] at h; exact absurd h (by decide)
  rw [if_neg e3]
  dsimp only
  have e:tkGo 0 0 s.data.toList = ((takeS s).1,(takeS s).2.1,0):=by rw [← e0]; rfl
  obtain ⟨k,h1,h2,_,h4,h5,h6⟩:=take_back e
  obtain ⟨n,hn⟩:∃ n:Nat,(takeS s).1 = (n:Int):=⟨(takeS s).1.toNat,by omega⟩
  rw [hn] at h4
  rw [h1,hn] at e3 ⊢
  have hl:=Lib.size_eq s
  have hz:(s.extract k (k + n)).size = n:=by rw [ByteArray.size_extract]; omega
  have hk:(putN (n:Int)).length = k:=by rw [← h4,List.length_take]; omega
  refine ⟨?_, ?_,s.data.toList.drop (k + n), ?_⟩
  ·rw [Int.toNat_natCast,Int.toNat_natCast,hz]; omega
  ·unfold txtL
   rw [Int.toNat_natCast,Int.toNat_natCast,hz,List.length_append,hk, ← Lib.size_eq,hz]
   omega
  ·unfold txtL
   rw [Int.toNat_natCast,Int.toNat_natCast,hz,extract_list, ← h4,List.append_assoc, ← List.drop_drop,List.take_append_drop,List.take_append_drop]
 ·rw [if_pos e0] at h
  exact absurd h e0
theorem takeT_le (s:ByteArray):∃ k:Nat,(takeT s).2.1 = (k:Int) ∧ k ≤ s.size:=by
 by_cases h:(takeT s).2.2 = 0
 ·obtain ⟨_,h1,r,h2⟩:=takeT_back s h
  refine ⟨_,h1, ?_⟩
  rw [Lib.size_eq,h2,List.length_append]
  omega
 ·refine ⟨0, ?_,Nat.zero_le _⟩
  unfold takeT at h ⊢
  split
  ·rfl
  ·rename_i h0
   rw [if_neg h0] at h
   repeat' split
   ·rfl
   ·rfl
   ·rfl
   ·rename_i h1 h2 h3
    rw [if_neg h1,if_neg h2,if_neg h3] at h
    exact absurd rfl h
theorem takeT_err (s:ByteArray) (h:(takeT s).2.2 ≠ 0):(takeT s).1 = .empty ∧ (takeT s).2.1 = 0:=by
 unfold takeT at h ⊢
 split
 ·exact ⟨rfl,rfl⟩
 ·rename_i h0
  rw [if_neg h0] at h
  repeat' split
  ·exact ⟨rfl,rfl⟩
  ·exact ⟨rfl,rfl⟩
  ·exact ⟨rfl,rfl⟩
  ·rename_i h1 h2 h3
   rw [if_neg h1,if_neg h2,if_neg h3] at h
   exact absurd rfl h
structure Trow where
 key:Int
 acc:Int
 l:List Int
def grp (k:Int):Int:=k % 8
def bef (a b:Int):Int:=if grp a < grp b then -1 else if grp b < grp a then 1 else if a < b then -1 else if b < a then 1 else 0
theorem bef_trans {a b c:Int} (h1:bef a b < 0) (h2:bef b c < 0):bef a c < 0:=by
 unfold bef at h1 h2 ⊢
 repeat' split at h1
 all_goals repeat' split at h2
 all_goals repeat' split
 all_goals omega
theorem bef_ne {a b:Int} (h:bef a b < 0):a ≠ b:=by
 rintro rfl
 unfold bef at h
 repeat' split at h
 all_goals omega
structure Tb where
 s:ByteArray
 e:Int
namespace Tb
def num (least most:Int) (p:Tb):Int × Tb :=
 if p.e ≠ 0 then (least,p) else
 if (takeS p.s).2.2 ≠ 0 then (least,⟨p.s,(takeS p.s).2.2⟩) else
 if (takeS p.s).1 < least ∨ most < (takeS p.s).1 then (least,⟨p.s.extract (takeS p.s).2.1.toNat p.s.size,21⟩) else
 ((takeS p.s).1,⟨p.s.extract (takeS p.s).2.1.toNat p.s.size,0⟩)
def any (p:Tb):Int × Tb:=p.num (-9223372036854775808) 9223372036854775807
def nums:Nat → Tb → List Int × Tb
 | 0,p => ([],p)
 | n + 1,p => (p.any.1 :: (nums n p.any.2).1,(nums n p.any.2).2)
def row (p:Tb):Trow × Tb :=
 let k:=p.any
 let a:=k.2.any
 let n:=a.2.num 0 16
 let q:=nums n.1.toNat n.2
 (⟨k.1,a.1,q.1⟩,q.2)
end Tb
def cntG (rs:List Trow) (g:Int):Nat:=(rs.filter fun r => grp r.key == g).length
def lastK:List Trow → Int
 | [] => 0
 | [r] => r.key
 | _ :: r :: l => lastK (r :: l)
theorem lastK_snoc:∀ (l:List Trow) (r:Trow),lastK (l ++ [r]) = r.key
 | [],r => rfl
 | [_],r => rfl
 | _ :: y :: l,r => lastK_snoc (y :: l) r
def rowBad (rs:List Trow) (k:Int):Prop:=(rs ≠ [] ∧ 0 ≤ bef (lastK rs) k) ∨ 40 ≤ cntG rs (grp k)
instance (rs:List Trow) (k:Int):Decidable (rowBad rs k):=by unfold rowBad; infer_instance
namespace Tb
def rows:Nat → List Trow → Tb → List Trow × Tb
 | 0,rs,p => (rs,p)
 | n + 1,rs,p =>
  if p.row.2.e ≠ 0 then ([],p.row.2) else
  if rowBad rs p.row.1.key then ([],⟨p.row.2.s,21⟩) else rows n (rs ++ [p.row.1]) p.row.2
theorem num_err {least most:Int} {p:Tb} (h:p.e ≠ 0):p.num least most = (least,p):=by unfold num; rw [if_pos h]
end Tb
def takeTb (s:ByteArray):List Trow × Int :=
 let n:=(Tb.mk s 0).num 0 320
 let q:=Tb.rows n.1.toNat [] n.2
 if q.2.e ≠ 0 then ([],q.2.e) else if q.2.s.size ≠ 0 then ([],21) else (q.1,0)
def Rise (rs:List Trow):Prop:=rs.Pairwise fun a b => bef a.key b.key < 0
theorem rise_last:∀ {rs:List Trow},Rise rs → ∀ r ∈ rs,bef r.key (lastK rs) < 0 ∨ r.key = lastK rs
 | [],_,r,hr => absurd hr (by simp)
 | [x],_,r,hr => .inr (by rw [List.mem_singleton.1 hr]; rfl)
 | x :: y :: l,h,r,hr => by
  obtain ⟨h1,h2⟩:=List.pairwise_cons.1 h
  show bef r.key (lastK (y :: l)) < 0 ∨ r.key = lastK (y :: l)
  rcases List.mem_cons.1 hr with rfl | hr
  ·rcases rise_last h2 y (by simp) with e | e
   ·exact .inl (bef_trans (h1 y (by simp)) e)
   ·exact .inl (e ▸ h1 y (by simp))
  ·exact rise_last h2 r hr
theorem rise_snoc {rs:List Trow} {r:Trow} (h:Rise rs) (hb : ¬ rowBad rs r.key):Rise (rs ++ [r]):=by
 refine List.pairwise_append.2 ⟨h,List.pairwise_singleton _ _,fun a ha b hb2 => ?_⟩
 rw [List.mem_singleton.1 hb2]
 have hne:rs ≠ []:=by rintro rfl; simp at ha
 have hl:bef (lastK rs) r.key < 0:=by
  have : ¬ 0 ≤ bef (lastK rs) r.key:=fun e => hb (.inl ⟨hne,e⟩)
  omega
 rcases rise_last h a ha with e | e
 ·exact bef_trans e hl
 ·rw [e]; exact hl
def rowFits (kind n:Int) (r:Trow):Bool := !(kind == 6 && decide (0 < r.l.length)) && !(kind == 7 && (r.acc != 0 || (decide (r.l.length < 1) || decide (n ≤ (r.l.length:Int)))))
def statefulB (kind:Int):Bool:=kind == 6 || kind == 7
def fitsB (kind n:Int) (rs:List Trow):Bool:=statefulB kind && rs.all (rowFits kind n)
def sm1 (p:Nat × Nat) (c:UInt8):Nat × Nat:=((p.1 + c.toNat) % 65521,(p.2 + (p.1 + c.toNat) % 65521) % 65521)
def smL (p:Nat × Nat) (l:List UInt8):Nat × Nat:=l.foldl sm1 p
theorem smL_snoc (p:Nat × Nat) (l:List UInt8) (c:UInt8):smL p (l ++ [c]) = sm1 (smL p l) c:=by
 unfold smL; rw [List.foldl_append]; rfl
theorem smL_take (p:Nat × Nat) (l:List UInt8) (k:Nat) (h:k < l.length):smL p (l.take (k + 1)) = sm1 (smL p (l.take k)) l[k]:=by
 rw [List.take_succ_eq_append_getElem h,smL_snoc]
theorem sm1_lt (p:Nat × Nat) (c:UInt8):(sm1 p c).1 < 65521 ∧ (sm1 p c).2 < 65521:=⟨Nat.mod_lt _ (by decide),Nat.mod_lt _ (by decide)⟩
theorem smL_lt:∀ (l:List UInt8) (p:Nat × Nat),p.1 < 65521 → p.2 < 65521 → (smL p l).1 < 65521 ∧ (smL p l).2 < 65521
 | [],p,h1,h2 => ⟨h1,h2⟩
 | c :: l,p,_,_ => smL_lt l _ (sm1_lt p c).1 (sm1_lt p c).2
def sumB (l:List UInt8):Nat:=65536 * (smL (1,0) l).2 + (smL (1,0) l).1
theorem sumB_lt (l:List UInt8):sumB l < 4294967296:=by
 have:=smL_lt l (1,0) (by decide) (by decide)
 unfold sumB
 omega
def tailL (n:Nat):List UInt8:=[UInt8.ofNat (n % 256),UInt8.ofNat (n / 256 % 256),UInt8.ofNat (n / 65536 % 256),UInt8.ofNat (n / 16777216 % 256)]
theorem tailL_len (n:Nat):(tailL n).length = 4:=rfl
def headL (k:Nat) (u:ByteArray):List UInt8:=UInt8.ofNat k :: txtL u
def frL (k:Nat) (u:ByteArray):List UInt8:=headL k u ++ tailL (sumB (headL k u))
theorem frL_len (k:Nat) (u:ByteArray):(frL k u).length = (txtL u).length + 5:=by
 unfold frL headL; rw [List.length_append,tailL_len,List.length_cons]
theorem txtL_len (u:ByteArray) (h:u.size ≤ 65536):(txtL u).length ≤ u.size + 10 ∧ u.size < (txtL u).length:=by
 have h1:=putN_len (u.size:Int) (by omega) (by omega)
 have h2:0 < (putN (u.size:Int)).length:=by
  unfold putN
  by_cases h:zig (u.size:Int) < 128
  ·rw [vby_lt h]; simp
  ·rw [vby_ge h]; simp
 unfold txtL
 rw [List.length_append, ← Lib.size_eq]
 omega
theorem txtL_pos (u:ByteArray):0 < (txtL u).length:=by
 have h2:0 < (putN (u.size:Int)).length:=by
  unfold putN
  by_cases h:zig (u.size:Int) < 128
  ·rw [vby_lt h]; simp
  ·rw [vby_ge h]; simp
 unfold txtL
 rw [List.length_append]
 omega
def takeF (s:ByteArray):Nat × ByteArray × Int × Int :=
 match s.data.toList with
 | [] => (0, .empty,0,20)
 | c :: _ =>
  if c.toNat = 0 then (0, .empty,0,21) else
  if (takeT (s.extract 1 s.size)).2.2 ≠ 0 then (0, .empty,0,(takeT (s.extract 1 s.size)).2.2) else
  if (s.size:Int) < (takeT (s.extract 1 s.size)).2.1 + 5 then (0, .empty,0,20) else
  if (s.data.toList.drop ((takeT (s.extract 1 s.size)).2.1 + 1).toNat).take 4 ≠ tailL (sumB (s.data.toList.take ((takeT (s.extract 1 s.size)).2.1 + 1).toNat)) then (0, .empty,0,40) else
  (c.toNat,(takeT (s.extract 1 s.size)).1,(takeT (s.extract 1 s.size)).2.1 + 5,0)
theorem takeF_cons (c:UInt8) (l:List UInt8):takeF (bstr (c :: l)) =
  if c.toNat = 0 then (0, .empty,0,21) else if (takeT (bstr l)).2.2 ≠ 0 then (0, .empty,0,(takeT (bstr l)).2.2) else
  if ((l.length + 1:Nat):Int) < (takeT (bstr l)).2.1 + 5 then (0, .empty,0,20) else
  if (l.drop (takeT (bstr l)).2.1.toNat).take 4 ≠ tailL (sumB (c :: l.take (takeT (bstr l)).2.1.toNat)) then (0, .empty,0,40) else
  (c.toNat,(takeT (bstr l)).1,(takeT (bstr l)).2.1 + 5,0):=by
 obtain ⟨k,hk,_⟩:=takeT_le (bstr l)
 unfold takeF
 rw [bstr_list]
 dsimp only
 rw [cut_bstr,bstr_size,List.drop_succ_cons,List.drop_zero,hk,show ((k:Int) + 1).toNat = k + 1 by omega,List.drop_succ_cons,List.take_succ_cons,Int.toNat_natCast,List.length_cons]
theorem takeF_put (k:Nat) (u:ByteArray) (h1:0 < k) (h2:k < 256) (hu:u.size ≤ 65536) (rest:List UInt8):takeF (bstr (frL k u ++ rest)) = (k,u,((frL k u).length:Int),0):=by
 have hk:(UInt8.ofNat k).toNat = k:=by simp; omega
 have e:frL k u ++ rest = UInt8.ofNat k :: (txtL u ++ (tailL (sumB (headL k u)) ++ rest)):=by unfold frL headL; simp
 rw [e,takeF_cons,takeT_put u hu]
 dsimp only
 rw [if_neg (by omega),if_neg (by simp),if_neg (by simp only [List.length_append,tailL_len]; omega),Int.toNat_natCast,List.drop_left,List.take_left,List.take_left' (tailL_len _)]
 rw [if_neg (by unfold headL; simp),hk,frL_len]
 simp
theorem ofNat_toNat8 (c:UInt8):UInt8.ofNat c.toNat = c:=by simp
theorem takeF_back (s:ByteArray) (h:(takeF s).2.2.2 = 0):0 < (takeF s).1 ∧ (takeF s).1 < 256 ∧ (takeF s).2.1.size ≤ 65536 ∧ (takeF s).2.2.1 = ((frL (takeF s).1 (takeF s).2.1).length:Int) ∧ ∃ rest,s.data.toList = frL (takeF s).1 (takeF s).2.1 ++ rest:=by
 rw [← bstr_of s] at h ⊢
 generalize s.data.toList = l at *
 cases l with
 | nil => exact absurd h (by decide)
 | cons c l =>
  rw [takeF_cons] at h ⊢
  have hc:=c.toNat_lt
  by_cases e0:c.toNat = 0
  ·rw [if_pos e0] at h; exact absurd h (by decide)
  rw [if_neg e0] at h ⊢
  by_cases e1:(takeT (bstr l)).2.2 = 0
  ·rw [if_neg (by simpa using e1)] at h ⊢
   obtain ⟨g1,g2,rest,g3⟩:=takeT_back (bstr l) e1
   rw [bstr_list] at g3
   by_cases e2:((l.length + 1:Nat):Int) < (takeT (bstr l)).2.1 + 5
   ·rw [if_pos e2] at h; exact absurd h (by decide)
   rw [if_neg e2] at h ⊢
   by_cases e3:(l.drop (takeT (bstr l)).2.1.toNat).take 4 = tailL (sumB (c :: l.take (takeT (bstr l)).2.1.toNat))
   ·rw [if_neg (by simpa using e3)]
    dsimp only
    refine ⟨by omega,hc,g1,by rw [frL_len,g2]; omega,rest.drop 4, ?_⟩
    rw [g2] at e3
    generalize (takeT (bstr l)).1 = u at *
    rw [bstr_list]
    rw [Int.toNat_natCast,g3,List.drop_left,List.take_left] at e3
    unfold frL headL
    rw [ofNat_toNat8, ← e3,g3,List.cons_append,List.cons_append,List.append_assoc,List.take_append_drop]
   ·rw [if_pos e3] at h; exact absurd h (by decide)
  ·rw [if_pos e1] at h; exact absurd h e1
theorem takeF_err (s:ByteArray) (h:(takeF s).2.2.2 ≠ 0):(takeF s).1 = 0 ∧ (takeF s).2.1 = .empty ∧ (takeF s).2.2.1 = 0:=by
 rw [← bstr_of s] at h ⊢
 generalize s.data.toList = l at *
 cases l with
 | nil => exact ⟨rfl,rfl,rfl⟩
 | cons c l =>
  rw [takeF_cons] at h ⊢
  repeat' split
  ·exact ⟨rfl,rfl,rfl⟩
  ·exact ⟨rfl,rfl,rfl⟩
  ·exact ⟨rfl,rfl,rfl⟩
  ·exact ⟨rfl,rfl,rfl⟩
  ·rename_i h1 h2 h3 h4
   rw [if_neg h1,if_neg h2,if_neg h3,if_neg h4] at h
   exact absurd rfl h
theorem takeF_le (s:ByteArray):∃ k:Nat,(takeF s).2.2.1 = (k:Int) ∧ k ≤ s.size ∧ ((takeF s).2.2.2 = 0 → 5 < k):=by
 by_cases h:(takeF s).2.2.2 = 0
 ·obtain ⟨_,_,_,h1,r,h2⟩:=takeF_back s h
  refine ⟨_,h1, ?_,fun _ => ?_⟩
  ·rw [Lib.size_eq,h2,List.length_append]; omega
  ·rw [frL_len]; have:=txtL_pos (takeF s).2.1; omega
 ·exact ⟨0,(takeF_err s h).2.2,Nat.zero_le _,fun e => absurd e h⟩
abbrev Frm:=Nat × ByteArray
def Frm.ok (p:Frm):Prop:=0 < p.1 ∧ p.1 < 256 ∧ p.2.size ≤ 65536
def frs (l:List Frm):List UInt8:=l.flatMap fun p => frL p.1 p.2
theorem frs_nil:frs [] = []:=rfl
theorem frs_cons (p:Frm) (l:List Frm):frs (p :: l) = frL p.1 p.2 ++ frs l:=rfl
end Go.Proofs.YtpkijdkoiecpiaaGreatDoor
