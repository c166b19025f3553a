/-
  Parts of the proof: PW.
-/
import Derived.Test.YtpkijdkoiecpiaaGreatDoorZR20
import Derived.Test.YtpkijdkoiecpiaaGreatDoorZR44
namespace Go.Proofs.YtpkijdkoiecpiaaGreatDoor
open Go.RowKit
set_option linter.unusedVariables false
set_option linter.unusedSimpArgs false
def sumsB:ByteArray:={ data:=#[112,97,114,32,50,10,115,32,115,111,117,114,99,101,10,114,32,114,101,100,117,99,101,32,115,32,58,32,97,99,99,32,43,32,118,97,108,10,116,32,115,105,110,107,32,114] }
def sumsJ:Jb:=⟨2,[⟨{ data:=#[115] },1,[],Ex.zero,0⟩,⟨{ data:=#[114] },6,[0], .mk 7 0 [.mk 4 0 [], .mk 3 0 []],0⟩,⟨{ data:=#[116] },9,[1],Ex.zero,0⟩]⟩
set_option maxRecDepth 100000 in
theorem sums_parse:pScript sumsB = (sumsJ,0,0):=by kernel_rfl
theorem sums_ok:sumsJ.ok:=by
 have:=pScript_ok sumsB
 rw [sums_parse] at this
 exact this
def startS:St:=⟨1,2,3,5,sumsJ,0,0,0⟩
def kindS (k:Nat):St:=⟨k,0,0,0,⟨0,[]⟩,0,0,0⟩
theorem i64_0:I64 0:=⟨by decide,by decide⟩
theorem start_ok:startS.Ok:=⟨by decide,⟨by decide,by decide⟩,⟨by decide,by decide⟩,⟨by decide,by decide⟩,sums_ok,i64_0,i64_0,i64_0⟩
theorem noJob_ok:Jb.ok ⟨0,[]⟩:=⟨by decide,by decide,by simp⟩
theorem kind_ok (k:Nat) (h:k < 256):(kindS k).Ok:=⟨h,i64_0,i64_0,i64_0,noJob_ok,i64_0,i64_0,i64_0⟩
def road0:Rdw:=⟨⟨6,[],0⟩,[],0⟩
def put0:Dk × Rdw × Int:=Rdw.put (Dk.new 5000) road0 startS
theorem put0_e:put0.2.2 = 0:=by kernel_rfl
theorem put0_p:put0.2.1.phase = 1:=by kernel_rfl
def put1:Dk × Rdw × Int:=Rdw.put put0.1 put0.2.1 (kindS 2)
theorem put1_e:put1.2.2 = 0:=by kernel_rfl
theorem putM_e:Rdw.put (Dk.new 5000) road0 (kindS 2) = (Dk.new 5000,road0,261):=by kernel_rfl
theorem put0_l:put0.1.loose.length = 0:=by kernel_rfl
end Go.Proofs.YtpkijdkoiecpiaaGreatDoor
