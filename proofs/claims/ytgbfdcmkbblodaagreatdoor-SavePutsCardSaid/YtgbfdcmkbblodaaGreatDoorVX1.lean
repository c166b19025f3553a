/- Parts. -/
import Derived.Test.YtgbfdcmkbblodaaGreatDoorVY21
namespace Go.Proofs.YtgbfdcmkbblodaaGreatDoor
open Go.RowKit
set_option linter.unusedVariables false
set_option linter.unusedSimpArgs false
set_option maxRecDepth 100000
set_option maxHeartbeats 16000000
structure Sta where
 uid:ByteArray
 bytes:ByteArray
def Jb.kindAt (j:Jb) (i:Nat):Int:=((j.nodes[i]?).map (·.kind)).getD 0
def Jb.nAt (j:Jb) (i:Nat):Int:=((j.nodes[i]?).map (·.n)).getD 0
def stBad (j:Jb) (s:Sta) (tk:List Nat):Bool:=decide (j.find s.uid<0)||(decide ((j.find s.uid).toNat∈tk)||!statefulB (j.kindAt (j.find s.uid).toNat))
def loadGo (j:Jb):List Sta->List Nat->Int
 | [],_=>0
 |s::l,tk=>
  if stBad j s tk=true then 180 else
  if(takeTb s.bytes).2≠0 then(takeTb s.bytes).2 else
  if fitsB (j.kindAt (j.find s.uid).toNat) (j.nAt (j.find s.uid).toNat) (takeTb s.bytes).1=false then 181 else
  loadGo j l (tk++ [(j.find s.uid).toNat])
def loadE (j:Jb) (l:List Sta):Int:=if j.may.2≠0 then 2 else loadGo j l []
structure Sv where
 n:Int
 cut:Int
 job:Jb
 states:List Sta
def sv0:Sv:=⟨0,0,⟨0,[]⟩,[]⟩
def stL (s:Sta):List UInt8:=txtL s.uid++txtL s.bytes
def stWide (s:Sta):Bool:=decide (65536<s.uid.size)||(decide (65536<s.bytes.size)||decide (65536<(stL s).length))
def putSt:List Sta->List UInt8×Int
 | []=>([],0)
 |s::l=>if stWide s=true then([],3)else(frL 10 (bstr (stL s))++(putSt l).1,(putSt l).2)
def Sv.head (x:Sv):List UInt8:=putL [x.n,x.cut,(x.states.length:Int)]++txtL (bstr x.job.by)
def Sv.bad (x:Sv):Bool:=decide (loadE x.job x.states≠0)||(decide (x.n<1)||decide (x.cut<0))
def putSv (x:Sv):List UInt8×Int:=
 if x.bad=true then([],2)else if(putSt x.states).2≠0 then([],(putSt x.states).2)else(frL 9 (bstr x.head)++(putSt x.states).1,0)
structure Rt where
 e:Int
 text:ByteArray
 rest:ByteArray
namespace Rt
def mx (a b:Int):Int:=if a<b then b else a
def next (p:Rt):Rt:=⟨mx p.e (takeF p.rest).2.2.2,(takeF p.rest).2.1,p.rest.extract (takeF p.rest).2.2.1.toNat p.rest.size⟩
def num (p:Rt):Int×Rt:=((takeS p.text).1,⟨mx p.e (takeS p.text).2.2,p.text.extract (takeS p.text).2.1.toNat p.text.size,p.rest⟩)
def read (p:Rt):ByteArray×Rt:=((takeT p.text).1,⟨mx p.e (takeT p.text).2.2,p.text.extract (takeT p.text).2.1.toNat p.text.size,p.rest⟩)
def sta (p:Rt):Sta×Rt:=(⟨p.next.read.1,p.next.read.2.read.1⟩,p.next.read.2.read.2)
def stas:Nat->Int->List Sta->Rt->List Sta×Rt
 |0,_,l,p=>(l,p)
 |k+1,m,l,p=>if 0<m/\p.e=0 then stas k (m-1) (l++ [p.sta.1]) p.sta.2 else(l,p)
end Rt
def headR (b:ByteArray):Int×Int×Int×Jb×Rt:=
 let p:=(Rt.mk 0 .empty b).next
 let n:=p.num
 let c:=n.2.num
 let m:=c.2.num
 let t:=m.2.read
 let j:=takeJ t.1
 (n.1,c.1,m.1,j.1,⟨Rt.mx t.2.e j.2,t.2.text,t.2.rest⟩)
def rawSv (b:ByteArray):Sv×Int:=
 let h:=headR b
 let q:=Rt.stas (b.size+2) h.2.2.1 [] h.2.2.2.2
 (⟨h.1,h.2.1,h.2.2.2.1,q.1⟩,q.2.e)
def takeSv (b:ByteArray):Sv×Int:=
 if(rawSv b).2=0/\(putSv (rawSv b).1).2=0/\bstr (putSv (rawSv b).1).1=b then((rawSv b).1,0)else(sv0,230)
structure Sv.Ok (x:Sv):Prop where
 n:I64 x.n
 cut:I64 x.cut
 job:x.job.ok
 many:x.states.length<=9223372036854775807
def stFr (s:Sta):Frm:=(10,bstr (stL s))
def Sv.frames (x:Sv):List Frm:=(9,bstr x.head)::x.states.map stFr
theorem putSt_frs: ∀(l:List Sta),(putSt l).2=0->(putSt l).1=frs (l.map stFr)/\ ∀s∈l,stWide s=false
 | [],_=>⟨rfl,by simp⟩
 |s::l,h=>by
  unfold putSt at h⊢
  by_cases hw:stWide s=true
  ·rw[if_pos hw]at h;exact absurd h (by decide)
  ·rw[if_neg hw]at h⊢
   obtain⟨h1,h2⟩:=putSt_frs l h
   refine⟨?_,fun t ht=>?_⟩
   ·show frL 10 (bstr (stL s))++(putSt l).1=_
    rw[h1];rfl
   ·rcases List.mem_cons.1 ht with rfl|ht
    ·simpa using hw
    ·exact h2 t ht
theorem loadE_may {j:Jb} {l:List Sta} (h:loadE j l=0):j.may.2=0:=by
 unfold loadE at h;by_cases h1:j.may.2=0
 ·exact h1
 ·rw[if_pos h1]at h;exact absurd h (by decide)
namespace Sv
theorem put_ok {x:Sv} (h:(putSv x).2=0):x.bad=false/\(putSv x).1=frs x.frames/\(∀s∈x.states,stWide s=false)/\x.job.may.2=0:=by
 unfold putSv at h⊢;by_cases h1:x.bad=true
 ·rw[if_pos h1]at h;exact absurd h (by decide)
 rw[if_neg h1]at h⊢;by_cases h2:(putSt x.states).2=0
 ·rw[if_neg (by simpa using h2)];obtain⟨h3,h4⟩:=putSt_frs _ h2;refine⟨by simpa using h1,?_,h4,?_⟩
  ·show frL 9 (bstr x.head)++(putSt x.states).1=_;rw[h3];rfl
  ·unfold bad at h1;simp only[Bool.or_eq_true,decide_eq_true_eq,not_or]at h1;exact loadE_may (by simpa using h1.1)
 ·rw[if_pos h2]at h;exact absurd h h2
theorem head_size {x:Sv} (hok:x.Ok) (hm:x.job.may.2=0):(bstr x.job.by).size<=65536/\(bstr x.head).size<=65536:=by
 have h1:=by_small hok.job hm;have h2:(putL [x.n,x.cut,(x.states.length:Int)]).length<=30:=by
  refine putL_len [x.n,x.cut,(x.states.length:Int)] ?_;have:=hok.n;have:=hok.cut;have:=hok.many;intro z hz;simp only[List.mem_cons,List.not_mem_nil,or_false]at hz;rcases hz with rfl|rfl|rfl
  ·assumption
  ·assumption
  ·unfold I64 at*;omega
 have h3:=(txtL_len (bstr x.job.by) (by rw[bstr_size];omega)).1;rw[bstr_size]at h3;refine⟨by rw[bstr_size];omega,?_⟩;unfold head;rw[bstr_size,la0];omega
theorem frames_ok {x:Sv} (hok:x.Ok) (h:(putSv x).2=0): ∀p∈x.frames,p.ok:=by
 obtain⟨_,_,h2,h3⟩:=put_ok h;intro p hp;rcases List.mem_cons.1 hp with rfl|hp
 ·exact⟨by show 0<9;decide,by show 9<256;decide,(head_size hok h3).2⟩
 ·obtain⟨s,hs,rfl⟩:=List.mem_map.1 hp;have hw:=h2 s hs;unfold stWide at hw;simp only[Bool.or_eq_false_iff,decide_eq_false_iff_not]at hw;exact⟨by show 0<10;decide,by show 10<256;decide,by show(bstr (stL s)).size<=65536;rw[bstr_size];omega⟩
end Sv
theorem num_put (e:Int) (n:Int) (hn:I64 n) (l:List UInt8) (r:ByteArray) (he:e=0):(Rt.mk e (bstr (putN n++l)) r).num=(n,⟨0,bstr l,r⟩):=by
 subst he;have h:takeS (bstr (putN n++l))=(n,((putN n).length:Int),0):=by rw[takeS_bstr];exact take_put n hn.1 hn.2 l
 unfold Rt.num;rw[h];dsimp only;rw[Int.toNat_natCast,cut_bstr,List.drop_left];rfl
theorem read_put' (e:Int) (u:ByteArray) (hu:u.size<=65536) (l:List UInt8) (r:ByteArray) (he:e=0):(Rt.mk e (bstr (txtL u++l)) r).read=(u,⟨0,bstr l,r⟩):=by
 subst he;unfold Rt.read;rw[takeT_put u hu];dsimp only;rw[Int.toNat_natCast,cut_bstr,List.drop_left];rfl
theorem next_put (e:Int) (t:ByteArray) (k:Nat) (u:ByteArray) (h1:0<k) (h2:k<256) (hu:u.size<=65536) (l:List UInt8) (he:e=0):(Rt.mk e t (bstr (frL k u++l))).next=⟨0,u,bstr l⟩:=by
 subst he;unfold Rt.next;rw[takeF_put k u h1 h2 hu];dsimp only;rw[Int.toNat_natCast,cut_bstr,List.drop_left];rfl
theorem sta_put (t:ByteArray) (s:Sta) (hw:stWide s=false) (l:List UInt8):(Rt.mk 0 t (bstr (frL 10 (bstr (stL s))++l))).sta=(s,⟨0,bstr [],bstr l⟩):=by
 unfold stWide at hw;simp only[Bool.or_eq_false_iff,decide_eq_false_iff_not]at hw;unfold Rt.sta;rw[next_put 0 t 10 _ (by decide) (by decide) (by rw[bstr_size];omega) l rfl];unfold stL;rw[read_put' 0 s.uid (by omega) (txtL s.bytes) _ rfl];dsimp only;have:=read_put' 0 s.bytes (by omega) [] (bstr l) rfl;rw[List.append_nil]at this;rw[this]
theorem stas_put: ∀(l:List Sta) (k:Nat) (acc:List Sta) (t:ByteArray),l.length<k->(∀s∈l,stWide s=false)->Rt.stas k (l.length:Int) acc ⟨0,t,bstr (frs (l.map stFr))⟩=(acc++l,⟨0,if l=[]then t else bstr [],bstr []⟩)
 |_,0,_,_,h,_=>absurd h (Nat.not_lt_zero _)
 | [],k+1,acc,t,_,_=>by
  unfold Rt.stas
  rw[if_neg (by simp),List.append_nil,if_pos rfl]
  rfl
 |s::l,k+1,acc,t,h,hw=>by
  have e:frs ((s::l).map stFr)=frL 10 (bstr (stL s))++frs (l.map stFr):=rfl
  unfold Rt.stas
  rw[if_pos ⟨by simp,rfl⟩,e,sta_put t s (hw s (by simp))]
  dsimp only
  rw[show(((s::l).length:Nat):Int) -1=(l.length:Int) by simp]
  rw[stas_put l k (acc++ [s]) (bstr []) (by simpa using h) (fun x hx=>hw x (by simp[hx]))]
  simp
theorem putL3 (a b c:Int) (l:List UInt8):putL [a,b,c]++l=putN a++(putN b++(putN c++l)):=by unfold putL;simp
theorem headR_put {x:Sv} (hok:x.Ok) (hm:x.job.may.2=0) (l:List UInt8):headR (bstr (frL 9 (bstr x.head)++l))=(x.n,x.cut,(x.states.length:Int),x.job,⟨0,bstr [],bstr l⟩):=by
 obtain⟨hj,hh⟩:=Sv.head_size hok hm;have hlen:I64 (x.states.length:Int):=by have:=hok.many;unfold I64;omega
 unfold headR;rw[next_put 0 .empty 9 _ (by decide) (by decide) hh l rfl];unfold Sv.head;rw[putL3];dsimp only;rw[num_put 0 x.n hok.n _ _ rfl];dsimp only;rw[num_put 0 x.cut hok.cut _ _ rfl];dsimp only;rw[num_put 0 (x.states.length:Int) hlen _ _ rfl];dsimp only;have:=read_put' 0 (bstr x.job.by) hj [] (bstr l) rfl;rw[List.append_nil]at this;rw[this];dsimp only;rw[takeJ_put hok.job hm];rfl
theorem frs_many: ∀(l:List Frm),l.length<=(frs l).length
 | []=>by simp[frs_nil]
 |p::l=>by
  have:=frs_many l
  rw[frs_cons,la0,List.length_cons,frL_len]
  omega
theorem takeSv_put {x:Sv} (hok:x.Ok) (h:(putSv x).2=0):takeSv (bstr (putSv x).1)=(x,0):=by
 obtain⟨_,h2,h3,h4⟩:=Sv.put_ok h;have e:rawSv (bstr (putSv x).1)=(x,0):=by
  unfold rawSv;have hb:(bstr (putSv x).1).size=(putSv x).1.length:=bstr_size _;rw[hb];have hm:=frs_many (x.states.map stFr);rw[List.length_map]at hm;have hl:(putSv x).1=frL 9 (bstr x.head)++frs (x.states.map stFr):=h2;have hl2:x.states.length<=(putSv x).1.length:=by rw[hl,la0];omega
  generalize (putSv x).1.length=N at*;rw[hl,headR_put hok h4];dsimp only;rw[stas_put x.states (N+2) [] (bstr []) (by omega) h3];rfl
 unfold takeSv;rw[e];dsimp only;rw[if_pos ⟨rfl,h,rfl⟩]
theorem takeSv_ok {b:ByteArray} (h:(takeSv b).2=0):takeSv b=((rawSv b).1,0)/\(putSv (takeSv b).1).2=0/\bstr (putSv (takeSv b).1).1=b:=by
 unfold takeSv at h⊢;by_cases hc:(rawSv b).2=0/\(putSv (rawSv b).1).2=0/\bstr (putSv (rawSv b).1).1=b
 ·rw[if_pos hc];exact⟨rfl,hc.2.1,hc.2.2⟩
 ·rw[if_neg hc]at h;exact absurd h (by decide)
theorem takeSv_err {b:ByteArray} (h:(takeSv b).2≠0):takeSv b=(sv0,230):=by
 unfold takeSv at h⊢;by_cases hc:(rawSv b).2=0/\(putSv (rawSv b).1).2=0/\bstr (putSv (rawSv b).1).1=b
 ·rw[if_pos hc]at h;exact absurd rfl h
 ·rw[if_neg hc]
namespace Dk
def write (d:Dk) (x:Sv):Dk×Int:=
 if(putSv x).2≠0 then(d,(putSv x).2)else
 if(d.read 5).2≠0 then(d,(d.read 5).2)else
 let c:=if(d.read 5).1.size≠0 then d.cut 5 0 else(d,0)
 if c.2≠0 then c else
 let a:=c.1.append 5 (bstr (putSv x).1)
 if a.2≠0 then a else
 let s:=a.1.sync
 if s.2≠0 then s else
 let m:=s.1.move 5 4
 if m.2≠0 then m else m.1.sync
def readSv (d:Dk):Sv×Int:=
 if(d.read 4).2≠0 then(sv0,(d.read 4).2)else if(d.read 4).1.size=0 then(sv0,4)else takeSv (d.read 4).1
theorem op_at (d:Dk):(d.left=0/\d.op=({d with off:=true},50))\/(d.left≠0/\d.op.2=0/\d.op.1.off=d.off/\d.op.1.room=d.room/\d.op.1.now=d.now/\d.op.1.sure=d.sure/\d.op.1.loose=d.loose/\(d.left= -1->d.op.1.left= -1)):=by
 unfold op;by_cases h:d.left=0
 ·rw[if_pos h];exact .inl ⟨h,rfl⟩
 ·rw[if_neg h];refine .inr ⟨h,?_⟩;split
  ·exact⟨rfl,rfl,rfl,rfl,rfl,rfl,fun e=>by omega⟩
  ·exact⟨rfl,rfl,rfl,rfl,rfl,rfl,fun e=>e⟩
theorem change_at (d:Dk) (c:Chg):(d.left=0/\d.change c=({d with off:=true},50))\/(d.left≠0/\(d.change c).2=0/\(d.change c).1.off=d.off/\(d.change c).1.room=d.room/\(d.change c).1.now=c.does d.now/\(d.change c).1.sure=d.sure/\(d.change c).1.loose=d.loose++ [c]/\(d.left= -1->(d.change c).1.left= -1)):=by
 unfold change;rcases op_at d with ⟨h,e⟩|⟨h,h0,h1,h2,h3,h4,h5,h6⟩
 ·rw[e,if_neg (by simp)];exact .inl ⟨h,rfl⟩
 ·rw[if_pos h0];exact .inr ⟨h,rfl,h1,h2,by show c.does d.op.1.now=_;rw[h3],h4,by show d.op.1.loose++ [c]=_;rw[h5],h6⟩
theorem sync_at (d:Dk) (ho:d.off=false):(d.left=0/\d.sync=({d with off:=true},50))\/(d.left≠0/\d.sync.2=0/\d.sync.1.off=false/\d.sync.1.room=d.room/\d.sync.1.now=d.now/\d.sync.1.sure=d.now/\d.sync.1.loose=[]/\(d.left= -1->d.sync.1.left= -1)):=by
 unfold sync;rw[if_neg (by rw[ho];decide)];rcases op_at d with ⟨h,e⟩|⟨h,h0,h1,h2,h3,h4,h5,h6⟩
 ·rw[e,if_neg (by simp)];exact .inl ⟨h,rfl⟩
 ·rw[if_pos h0];exact .inr ⟨h,rfl,h1.trans ho,h2,h3,h3,rfl,h6⟩
end Dk
structure Kdk (d:Dk) (a:Sv):Prop where
 len:d.now.length=16
 off:d.off=false
 loose:d.loose=[]
 sure:d.sure=d.now
 save:fl d.now 4=bstr (putSv a).1
 temp:fl d.now 5= .empty
structure Kck (d:Dk) (a:Sv):Prop where
 len:d.now.length=16
 off:d.off=false
 loose:d.loose=[]
 sure:d.sure=d.now
 left:d.left= -1
 save:fl d.now 4=bstr (putSv a).1
theorem putSv_pos {a:Sv} (h:(putSv a).2=0):(bstr (putSv a).1).size≠0:=by
 obtain⟨_,e,_⟩:=Sv.put_ok h;rw[e,bstr_size];unfold Sv.frames;rw[frs_cons,la0,frL_len];omega
def Dk.write2 (d:Dk) (t:ByteArray):Dk×Int:=
 let a:=d.append 5 t
 if a.2≠0 then a else
 let s:=a.1.sync
 if s.2≠0 then s else
 let m:=s.1.move 5 4
 if m.2≠0 then m else m.1.sync
theorem Dk.append_at (d:Dk) (ho:d.off=false) (t:ByteArray):d.append 5 t=(d,7)\/d.append 5 t=d.change (.app 5 t):=by
 unfold Dk.append;rw[if_neg (by rw[ho];decide),if_neg (by decide)];by_cases h:d.free<(t.size:Int)
 ·rw[if_pos h];exact .inl rfl
 ·rw[if_neg h];exact .inr rfl
theorem Dk.move_at (d:Dk) (ho:d.off=false):d.move 5 4=d.change (.mv 5 4):=by
 unfold Dk.move;rw[if_neg (by rw[ho];decide),if_neg (by decide),if_neg (by decide)];rfl
theorem Dk.write2_at (d:Dk) (ho:d.off=false) (hl:d.loose=[]) (hs:d.sure=d.now) (h16:d.now.length=16) (t:ByteArray) (q:Dk×Int) (hq:d.write2 t=q):
  (q.2=7/\q.1=d)\/(q.2=50/\q.1.sure=d.now/\(q.1.loose=[]\/q.1.loose=[.app 5 t]))\/
  (q.2=50/\q.1.sure=(Chg.app 5 t).does d.now/\(q.1.loose=[]\/q.1.loose=[.mv 5 4]))\/
  (q.2=0/\q.1.off=false/\q.1.loose=[]/\q.1.sure=q.1.now/\q.1.now=(Chg.mv 5 4).does ((Chg.app 5 t).does d.now)/\(d.left= -1->q.1.left= -1)):=by
 unfold Dk.write2 at hq;rcases d.append_at ho t with e|e
 ·rw[e]at hq;dsimp only at hq;rw[if_pos (by decide)]at hq;subst hq;exact .inl ⟨rfl,rfl⟩
 rw[e]at hq;rcases d.change_at (.app 5 t)with ⟨_,e1⟩|⟨_,a0,a1,a2,a3,a4,a5,a6⟩
 ·rw[e1]at hq;dsimp only at hq;rw[if_pos (by decide)]at hq;subst hq;exact .inr (.inl ⟨rfl,hs,.inl hl⟩)
 generalize d.change (.app 5 t)=x at*;dsimp only at hq;rw[if_neg (by rw[a0];decide)]at hq;rw[hl]at a5;rcases x.1.sync_at (a1.trans ho)with ⟨_,e1⟩|⟨_,b0,b1,b2,b3,b4,b5,b6⟩
 ·rw[e1]at hq;dsimp only at hq;rw[if_pos (by decide)]at hq;subst hq;exact .inr (.inl ⟨rfl,a4.trans hs,.inr a5⟩)
 generalize x.1.sync=y at*;rw[if_neg (by rw[b0];decide),y.1.move_at b1]at hq;rcases y.1.change_at (.mv 5 4)with ⟨_,e1⟩|⟨_,c0,c1,c2,c3,c4,c5,c6⟩
 ·rw[e1]at hq;dsimp only at hq;rw[if_pos (by decide)]at hq;subst hq;exact .inr (.inr (.inl ⟨rfl,b4.trans a3,.inl b5⟩))
 generalize y.1.change (.mv 5 4)=z at*;rw[if_neg (by rw[c0];decide)]at hq;rw[b5]at c5;rcases z.1.sync_at (c1.trans b1)with ⟨_,e1⟩|⟨_,d0,d1,d2,d3,d4,d5,d6⟩
 ·rw[e1]at hq;subst hq;exact .inr (.inr (.inl ⟨rfl,c4.trans (b4.trans a3),.inr c5⟩))
 ·subst hq;refine .inr (.inr (.inr ⟨d0,d1,d5,d4.trans d3.symm,?_,fun h=>d6 (c6 (b6 (a6 h)))⟩));rw[d3,c3,b3,a3]
theorem does_app (l:Fls) (t:ByteArray) (h:l.length=16):fl ((Chg.app 5 t).does l) 4=fl l 4/\fl ((Chg.app 5 t).does l) 5=fl l 5++t/\((Chg.app 5 t).does l).length=16:=by
 refine⟨?_,?_,by rw[Chg.does_len];exact h⟩
 ·show fl (l.set 5 _) 4=_;rw[fl_set l 5 4 _ (by omega),if_neg (by decide)]
 ·show fl (l.set 5 _) 5=_;rw[fl_set l 5 5 _ (by omega),if_pos rfl]
theorem does_mv (l:Fls) (h:l.length=16):fl ((Chg.mv 5 4).does l) 4=fl l 5/\fl ((Chg.mv 5 4).does l) 5= .empty:=by
 refine⟨?_,?_⟩
 ·show fl ((l.set 4 _).set 5 _) 4=_;rw[fl_set _ 5 4 _ (by rw[List.length_set];omega),if_neg (by decide),fl_set l 4 4 _ (by omega),if_pos rfl]
 ·show fl ((l.set 4 _).set 5 _) 5=_;rw[fl_set _ 5 5 _ (by rw[List.length_set];omega),if_pos rfl]
theorem empty_app (t:ByteArray):ByteArray.empty++t=t:=by
 apply ByteArray.ext;rw[ByteArray.data_append];simp
theorem write_plain (d:Dk) (x:Sv) (ho:d.off=false) (h5:fl d.now 5= .empty):d.write x=if(putSv x).2≠0 then(d,(putSv x).2)else d.write2 (bstr (putSv x).1):=by
 have hr:d.read 5=(.empty,0):=by
  unfold Dk.read;rw[if_neg (by rw[ho];decide),if_neg (by decide)];show(fl d.now 5,(0:Int))=_;rw[h5]
 unfold Dk.write;rw[hr];dsimp only;rw[if_neg (by decide: ¬(0:Int)≠0)];rw[if_neg (by decide: ¬(ByteArray.empty).size≠0)];dsimp only;rw[if_neg (by decide: ¬(0:Int)≠0)];rfl
theorem write_first (room:Int) (a:Sv) (h:((Dk.new room).write a).2=0):(putSv a).2=0/\Kdk ((Dk.new room).write a).1 a:=by
 have e:=write_plain (Dk.new room) a rfl rfl;by_cases hp:(putSv a).2=0
 ·rw[if_neg (by simpa using hp)]at e;refine⟨hp,?_⟩;have hw:=Dk.write2_at (Dk.new room) rfl rfl rfl rfl (bstr (putSv a).1) _ rfl;rw[e]at h⊢;rcases hw with ⟨h1,_⟩|⟨h1,_⟩|⟨h1,_⟩|⟨_,h2,h3,h4,h5,h6⟩
  ·rw[h1]at h;exact absurd h (by decide)
  ·rw[h1]at h;exact absurd h (by decide)
  ·rw[h1]at h;exact absurd h (by decide)
  ·obtain⟨g1,g2,g3⟩:=does_app (Dk.new room).now (bstr (putSv a).1) rfl;obtain⟨k1,k2⟩:=does_mv _ g3;refine⟨by rw[h5,Chg.does_len];exact g3,h2,h3,h4,?_,?_⟩
   ·rw[h5,k1,g2];exact empty_app _
   ·rw[h5,k2]
 ·rw[if_pos hp]at e;rw[e]at h;exact absurd h hp
theorem Kck.read {d:Dk} {a:Sv} (h:Kck d a) (hok:a.Ok) (hp:(putSv a).2=0):d.readSv=(a,0):=by
 have hr:d.read 4=(bstr (putSv a).1,0):=by
  unfold Dk.read;rw[if_neg (by rw[h.off];decide),if_neg (by decide)];show(fl d.now 4,(0:Int))=_;rw[h.save]
 unfold Dk.readSv;rw[hr];dsimp only;rw[if_neg (by decide: ¬(0:Int)≠0),if_neg (putSv_pos hp),takeSv_put hok hp]
namespace Tb
theorem num_btw {least most:Int} (h:least<=most) (p:Tb):least<=(p.num least most).1/\(p.num least most).1<=most:=by
 unfold num;by_cases h1:p.e≠0
 ·rw[if_pos h1];exact⟨Int.le_refl _,h⟩
 rw[if_neg h1];by_cases h2:(takeS p.s).2.2≠0
 ·rw[if_pos h2];exact⟨Int.le_refl _,h⟩
 rw[if_neg h2];by_cases h3:(takeS p.s).1<least\/most<(takeS p.s).1
 ·rw[if_pos h3];exact⟨Int.le_refl _,h⟩
 ·rw[if_neg h3];show least<=(takeS p.s).1/\(takeS p.s).1<=most;omega
theorem nums_many: ∀(n:Nat) (p:Tb),(nums n p).1.length=n
 |0,_=>rfl
 |n+1,p=>by unfold nums;rw[List.length_cons,nums_many n]
theorem row_few (p:Tb):p.row.1.l.length<=16:=by
 show(nums (p.any.2.any.2.num 0 16).1.toNat (p.any.2.any.2.num 0 16).2).1.length<=16;rw[nums_many];have:=num_btw (least:=0) (most:=16) (by decide) p.any.2.any.2;omega
theorem rows_at: ∀(n:Nat) (rs:List Trow) (p:Tb),Rise rs->(∀r∈rs,r.l.length<=16)->Rise (rows n rs p).1/\(∀r∈(rows n rs p).1,r.l.length<=16)/\(rows n rs p).1.length<=rs.length+n
 |0,rs,p,h1,h2=>⟨h1,h2,le0⟩
 |n+1,rs,p,h1,h2=>by
  unfold rows
  by_cases ha:p.row.2.e≠0
  ·rw[if_pos ha];exact⟨List.Pairwise.nil,by simp,by simp⟩
  rw[if_neg ha]
  by_cases hb:rowBad rs p.row.1.key
  ·rw[if_pos hb];exact⟨List.Pairwise.nil,by simp,by simp⟩
  rw[if_neg hb]
  obtain⟨g1,g2,g3⟩:=rows_at n (rs++ [p.row.1]) p.row.2 (rise_snoc h1 hb) (fun r hr=>by
   rcases List.mem_append.1 hr with hr|hr
   ·exact h2 r hr
   ·rw[List.mem_singleton.1 hr];exact row_few p)
  refine⟨g1,g2,?_⟩
  rw[la0,List.length_singleton]at g3
  omega
end Tb
theorem takeTb_at (s:ByteArray):Rise (takeTb s).1/\(∀r∈(takeTb s).1,r.l.length<=16)/\(takeTb s).1.length<=320:=by
 have hn:=Tb.num_btw (least:=0) (most:=320) (by decide) ⟨s,0⟩;obtain⟨g1,g2,g3⟩:=Tb.rows_at ((Tb.mk s 0).num 0 320).1.toNat [] ((Tb.mk s 0).num 0 320).2 List.Pairwise.nil (by simp);unfold takeTb;dsimp only;generalize Tb.rows ((Tb.mk s 0).num 0 320).1.toNat [] ((Tb.mk s 0).num 0 320).2=q at*;split
 ·exact⟨List.Pairwise.nil,by simp,by simp⟩
 split
 ·exact⟨List.Pairwise.nil,by simp,by simp⟩
 ·refine⟨g1,g2,?_⟩;show q.1.length<=320;simp only[List.length_nil]at g3;omega
theorem Tb.rows_keys: ∀(n:Nat) (rs:List Trow) (p:Tb),(∀r∈rs,I64 r.key)-> ∀r∈(Tb.rows n rs p).1,I64 r.key
 |0,rs,p,h=>h
 |n+1,rs,p,h=>by
  unfold Tb.rows
  by_cases ha:p.row.2.e≠0
  ·rw[if_pos ha];intro r hr;cases hr
  rw[if_neg ha]
  by_cases hb:rowBad rs p.row.1.key
  ·rw[if_pos hb];intro r hr;cases hr
  rw[if_neg hb]
  refine Tb.rows_keys n _ _ fun r hr=>?_
  rcases List.mem_append.1 hr with hr|hr
  ·exact h r hr
  ·rw[List.mem_singleton.1 hr];exact Tb.num_btw (by decide) p
theorem takeTb_keys (s:ByteArray): ∀r∈(takeTb s).1,I64 r.key:=by
 have g:=Tb.rows_keys ((Tb.mk s 0).num 0 320).1.toNat [] ((Tb.mk s 0).num 0 320).2 (by simp);unfold takeTb;dsimp only;generalize Tb.rows ((Tb.mk s 0).num 0 320).1.toNat [] ((Tb.mk s 0).num 0 320).2=q at*;split
 ·intro r hr;cases hr
 split
 ·intro r hr;cases hr
 ·exact g
theorem Rise.keys {rs:List Trow} (h:Rise rs):(rs.map (·.key)).Nodup:=by
 refine List.pairwise_map.2 (h.imp fun hab=>bef_ne hab)
namespace Rt
theorem stas_len: ∀(k:Nat) (m:Int) (l:List Sta) (p:Rt),(stas k m l p).1.length<=l.length+k
 |0,_,l,_=>le0
 |k+1,m,l,p=>by
  unfold stas
  by_cases h:0<m/\p.e=0
  ·rw[if_pos h]
   have:=stas_len k (m-1) (l++ [p.sta.1]) p.sta.2
   rw[la0,List.length_singleton]at this
   omega
  ·rw[if_neg h];exact Nat.le_add_right _ _
end Rt
theorem num_i64 (p:Rt):I64 p.num.1:=by
 obtain⟨k,_,_,h1,h2⟩:=takeS_size p.text;exact⟨h1,h2⟩
theorem headR_ok (b:ByteArray):I64 (headR b).1/\I64 (headR b).2.1/\(headR b).2.2.2.1.ok:=by
 unfold headR;dsimp only;exact⟨num_i64 _,num_i64 _,takeJ_ok _⟩
theorem raw_ok (b:ByteArray) (h:b.size<=140737488355328):(rawSv b).1.Ok:=by
 have hh:=headR_ok b;unfold rawSv;generalize headR b=q at*;dsimp only;obtain⟨h1,h2,h3⟩:=hh;refine⟨h1,h2,h3,?_⟩;have:=Rt.stas_len (b.size+2) q.2.2.1 [] q.2.2.2.2;simp only[List.length_nil]at this;show(Rt.stas (b.size+2) q.2.2.1 [] q.2.2.2.2).1.length<=_;omega
namespace Rd
def tb (p:Rd):Tb:=⟨p.s,p.e⟩
def trow (p:Rd):Trow×Rd:=
 let n:=p.num.2.num.2.win 16 21
 (⟨p.num.1,p.num.2.num.1,(reps Rd.num n.1.toNat n.2).1⟩,(reps Rd.num n.1.toNat n.2).2)
def trows:Nat->List Trow->Rd->List Trow×Rd
 |0,rs,p=>(rs,p)
 |n+1,rs,p=>
  if p.trow.2.e≠0 then([],p.trow.2)else
  if rowBad rs p.trow.1.key then([],⟨p.trow.2.s,21⟩)else trows n (rs++ [p.trow.1]) p.trow.2
theorem cut_zero (s:ByteArray):s.extract (Int.toNat 0) s.size=s:=by
 show s.extract 0 s.size=s;rw[<-bstr_of (s.extract 0 s.size),cut_list,List.drop_zero,bstr_of]
theorem num_tb (p:Rd):p.tb.any.2=p.num.2.tb/\(p.num.2.e=0->p.tb.any.1=p.num.1):=by
 by_cases h1:p.e=0
 ·obtain⟨k,_,_,h3,h4⟩:=takeS_size p.s;unfold Tb.any Tb.num Rd.num;rw[if_pos h1,if_neg (by show ¬p.e≠0;simpa using h1)];by_cases h2:(takeS p.s).2.2=0
  ·rw[if_neg (by show ¬(takeS p.s).2.2≠0;simpa using h2),if_neg (by show ¬((takeS p.s).1<_\/_<(takeS p.s).1);omega)];refine⟨?_,fun _=>rfl⟩;show Tb.mk (p.s.extract _ _) 0=Tb.mk (p.cut _) (takeS p.s).2.2;rw[h2];rfl
  ·rw[if_pos (by show(takeS p.s).2.2≠0;exact h2)];refine⟨?_,fun h=>absurd h h2⟩;show Tb.mk p.s (takeS p.s).2.2=Tb.mk (p.s.extract (takeS p.s).2.1.toNat p.s.size) (takeS p.s).2.2;have h5:(takeS p.s).2.1=0:=(tkGo_err _ 0 0 h2).2;rw[h5,cut_zero]
 ·rw[Rd.num_err h1];have:p.tb.any=(-9223372036854775808,p.tb):=Tb.num_err h1;rw[this];exact⟨rfl,fun h=>absurd h h1⟩
theorem win_tb (p:Rd) (m:Int):p.tb.num 0 m=((p.win m 21).1,(p.win m 21).2.tb):=by
 by_cases h1:p.e=0
 ·unfold Tb.num Rd.win Rd.num;rw[if_pos h1,if_neg (by show ¬p.e≠0;simpa using h1)];dsimp only;by_cases h2:(takeS p.s).2.2=0
  ·rw[if_neg (by show ¬(takeS p.s).2.2≠0;simpa using h2)];by_cases h3:(takeS p.s).1<0\/m<(takeS p.s).1
   ·rw[if_pos (by exact h3),if_pos ⟨h2,h3⟩];rfl
   ·rw[if_neg (by exact h3),if_neg (fun h=>h3 h.2)];show(_,Tb.mk _ 0)=(_,Tb.mk _ (takeS p.s).2.2);rw[h2];rfl
  ·rw[if_pos (by show(takeS p.s).2.2≠0;exact h2),if_neg (fun h=>h2 h.1)];have h5:=tkGo_err _ 0 0 h2;have h6:(takeS p.s).1=0:=h5.1;have h7:(takeS p.s).2.1=0:=h5.2;show(_,Tb.mk p.s (takeS p.s).2.2)=(_,Tb.mk (p.s.extract (takeS p.s).2.1.toNat p.s.size) (takeS p.s).2.2);rw[h6,h7,cut_zero]
 ·have h2:p.win m 21=(0,p):=by unfold Rd.win;rw[Rd.num_err h1,if_neg (fun h=>h1 h.1)]
  rw[h2];exact Tb.num_err h1
theorem reps_tb: ∀(n:Nat) (p:Rd),(Tb.nums n p.tb).2=(reps Rd.num n p).2.tb/\((reps Rd.num n p).2.e=0->(Tb.nums n p.tb).1=(reps Rd.num n p).1)
 |0,p=>⟨rfl,fun _=>rfl⟩
 |n+1,p=>by
  obtain⟨h1,h2⟩:=num_tb p
  obtain⟨g1,g2⟩:=reps_tb n p.num.2
  unfold Tb.nums reps
  rw[h1]
  refine⟨g1,fun h=>?_⟩
  have he:p.num.2.e=0:=by
   by_cases he:p.num.2.e=0
   ·exact he
   ·have h3:(reps Rd.num n p.num.2).2.tb=p.num.2.tb:=by rw[<-g1];exact Tb.nums_err n he
    exact absurd ((congrArg Tb.e h3).symm.trans h) he
  rw[h2 he,g2 h]
theorem reps_e: ∀(n:Nat) (p:Rd),(reps Rd.num n p).2.e=0->p.e=0:=fun n p h=>by
 by_cases he:p.e=0
 ·exact he
 ·have h3:(reps Rd.num n p).2.tb=p.tb:=by rw[<-(reps_tb n p).1];exact Tb.nums_err n he
  exact absurd ((congrArg Tb.e h3).symm.trans h) he
theorem num_e {p:Rd} (h:p.num.2.e=0):p.e=0:=by
 by_cases he:p.e=0
 ·exact he
 ·rw[Rd.num_err he]at h;exact h
theorem win_e {p:Rd} {m:Int} (h:(p.win m 21).2.e=0):p.e=0:=by
 by_cases he:p.e=0
 ·exact he
 ·unfold Rd.win at h;rw[Rd.num_err he,if_neg (fun h=>he h.1)]at h;exact h
theorem row_tb (p:Rd):p.tb.row.2=p.trow.2.tb/\(p.trow.2.e=0->p.tb.row.1=p.trow.1):=by
 have e2:=win_tb p.num.2.num.2 16;obtain⟨h1,h2⟩:=num_tb p;obtain⟨g1,g2⟩:=num_tb p.num.2;unfold Tb.row trow;dsimp only;rw[h1,g1,e2];dsimp only;obtain⟨k1,k2⟩:=reps_tb (p.num.2.num.2.win 16 21).1.toNat (p.num.2.num.2.win 16 21).2;refine⟨k1,fun h=>?_⟩;have q1:=win_e (reps_e _ _ h);rw[k2 h,g2 q1,h2 (num_e q1)]
theorem rows_tb: ∀(n:Nat) (rs:List Trow) (p:Rd),Tb.rows n rs p.tb=((p.trows n rs).1,(p.trows n rs).2.tb)
 |0,rs,p=>rfl
 |n+1,rs,p=>by
  obtain⟨h1,h2⟩:=row_tb p
  unfold Tb.rows trows
  rw[h1]
  by_cases he:p.trow.2.e=0
  ·have he': ¬p.trow.2.e≠0:=by simpa using he
   rw[h2 he,if_neg (show ¬p.trow.2.tb.e≠0 from he'),if_neg he']
   by_cases hb:rowBad rs p.trow.1.key
   ·rw[if_pos hb,if_pos hb];rfl
   ·rw[if_neg hb,if_neg hb];exact rows_tb n _ _
  ·rw[if_pos (show p.trow.2.tb.e≠0 from he),if_pos he]
end Rd
theorem takeTb_ref (s:ByteArray):takeTb s=(let n:=(Rd.mk s 0).win 320 21;let q:=n.2.trows n.1.toNat [];if q.2.e≠0 then([],q.2.e)else if q.2.s.size≠0 then([],21)else(q.1,0)):=by
 have h:=Rd.win_tb ⟨s,0⟩ 320;have h':(Tb.mk s 0).num 0 320=(((Rd.mk s 0).win 320 21).1,((Rd.mk s 0).win 320 21).2.tb):=h;unfold takeTb;dsimp only;rw[h'];dsimp only;rw[Rd.rows_tb];rfl
structure Ub where
 s:ByteArray
 bad:Bool
namespace Ub
def num (p:Ub):Int×Ub:=((takeS p.s).1,⟨p.s.extract (takeS p.s).2.1.toNat p.s.size,p.bad||decide ((takeS p.s).2.2≠0)⟩)
def text (p:Ub):ByteArray×Ub:=((takeT p.s).1,⟨p.s.extract (takeT p.s).2.1.toNat p.s.size,p.bad||decide ((takeT p.s).2.2≠0)⟩)
def sta (u:ByteArray):Sta×Bool:=(⟨(Ub.mk u false).text.1,(Ub.mk u false).text.2.text.1⟩,(Ub.mk u false).text.2.text.2.bad)
theorem num_put (n:Int) (hn:I64 n) (l:List UInt8) (b:Bool):(Ub.mk (bstr (putN n++l)) b).num=(n,⟨bstr l,b⟩):=by
 have h:takeS (bstr (putN n++l))=(n,((putN n).length:Int),0):=by rw[takeS_bstr];exact take_put n hn.1 hn.2 l
 unfold num;rw[h];dsimp only;rw[Int.toNat_natCast,cut_bstr,List.drop_left];simp
theorem text_put (u:ByteArray) (hu:u.size<=65536) (l:List UInt8) (b:Bool):(Ub.mk (bstr (txtL u++l)) b).text=(u,⟨bstr l,b⟩):=by
 unfold text;rw[takeT_put u hu];dsimp only;rw[Int.toNat_natCast,cut_bstr,List.drop_left];simp
theorem text_last (u:ByteArray) (hu:u.size<=65536) (b:Bool):(Ub.mk (bstr (txtL u)) b).text=(u,⟨bstr [],b⟩):=by
 have:=text_put u hu [] b;rwa[List.append_nil]at this
theorem sta_put (s:Sta) (hw:stWide s=false):sta (bstr (stL s))=(s,false):=by
 unfold stWide at hw;simp only[Bool.or_eq_false_iff,decide_eq_false_iff_not]at hw;unfold sta stL;rw[text_put s.uid (by omega),text_last s.bytes (by omega)]
end Ub
def rHead (u:ByteArray):Int×Int×Int×(Jb×Int)×Bool:=
 let n:=(Ub.mk u false).num
 let c:=n.2.num
 let m:=c.2.num
 (n.1,c.1,m.1,takeJ m.2.text.1,m.2.text.2.bad)
def rSvX (u:ByteArray) (l:List Frm):Sv:=⟨(rHead u).1,(rHead u).2.1,(rHead u).2.2.2.1.1,l.map fun f=>(Ub.sta f.2).1⟩
def rSvG (u:ByteArray) (l:List Frm) (b:ByteArray):Sv×Int:=
 if(rHead u).2.2.2.1.2≠0\/(rHead u).2.2.1≠l.length then(sv0,230)else
 if((rHead u).2.2.2.2||l.any fun f=>(Ub.sta f.2).2)=true\/(putSv (rSvX u l)).2≠0\/bstr (putSv (rSvX u l)).1≠b then(sv0,230)else(rSvX u l,0)
def rSv (b:ByteArray):Sv×Int:=match allF b with
 | []=>(sv0,230)
 |p::l=>if(frs (p::l)).length≠b.size then(sv0,230)else rSvG p.2 l b
theorem rHead_put {x:Sv} (hok:x.Ok) (hm:x.job.may.2=0):rHead (bstr x.head)=(x.n,x.cut,(x.states.length:Int),(x.job,0),false):=by
 have hlen:I64 (x.states.length:Int):=by have:=hok.many;unfold I64;omega
 unfold rHead Sv.head;rw[putL3];dsimp only;rw[Ub.num_put x.n hok.n];dsimp only;rw[Ub.num_put x.cut hok.cut];dsimp only;rw[Ub.num_put _ hlen];dsimp only;rw[Ub.text_last (bstr x.job.by) (Sv.head_size hok hm).1];dsimp only;rw[takeJ_put hok.job hm]
theorem stas_back: ∀(l:List Sta),(∀s∈l,stWide s=false)->(l.map stFr).map (fun f=>(Ub.sta f.2).1)=l/\((l.map stFr).any fun f=>(Ub.sta f.2).2)=false
 | [],_=>⟨rfl,rfl⟩
 |s::l,h=>by
  obtain⟨h1,h2⟩:=stas_back l fun x hx=>h x (by simp[hx])
  have e:Ub.sta (stFr s).2=(s,false):=Ub.sta_put s (h s (by simp))
  rw[List.map_cons,List.map_cons,List.any_cons,e,h1,h2]
  exact⟨rfl,rfl⟩
theorem ub_i64 (p:Ub):I64 p.num.1:=by
 obtain⟨k,_,_,h1,h2⟩:=takeS_size p.s;exact⟨h1,h2⟩
theorem frs_few (b:ByteArray):(allF b).length<=b.size:=le1 (frs_many _) (allF_le b)
theorem rHead_ok (u:ByteArray):I64 (rHead u).1/\I64 (rHead u).2.1/\(rHead u).2.2.2.1.1.ok:=by
 unfold rHead;dsimp only;exact⟨ub_i64 _,ub_i64 _,takeJ_ok _⟩
theorem rSvX_ok (u:ByteArray) (l:List Frm) (h:l.length<=9223372036854775807):(rSvX u l).Ok:=by
 have h4:=rHead_ok u;have e:(rSvX u l).states.length=l.length:=by unfold rSvX;exact List.length_map _
 obtain⟨e1,e2,e3⟩:(rSvX u l).n=(rHead u).1/\(rSvX u l).cut=(rHead u).2.1/\(rSvX u l).job=(rHead u).2.2.2.1.1:=by and_intros<;>(unfold rSvX;dsimp only)
 generalize rSvX u l=x at*;generalize rHead u=q at*;constructor
 ·rw[e1];exact h4.1
 ·rw[e2];exact h4.2.1
 ·rw[e3];exact h4.2.2
 ·exact e▸h
theorem rSv_put {x:Sv} (hok:x.Ok) (h:(putSv x).2=0):rSv (bstr (putSv x).1)=(x,0):=by
 obtain⟨_,h2,h3,h4⟩:=Sv.put_ok h;obtain⟨g1,g2⟩:=stas_back x.states h3;have hA:allF (bstr (putSv x).1)=(9,bstr x.head)::x.states.map stFr:=by rw[h2];exact allF_whole _ (Sv.frames_ok hok h)
 have hsz:(frs ((9,bstr x.head)::x.states.map stFr)).length=(bstr (putSv x).1).size:=by rw[bstr_size,h2];rfl
 unfold rSv;rw[hA];dsimp only;rw[if_neg (fun e=>e hsz)];have hx:rSvX (bstr x.head) (x.states.map stFr)=x:=by
  unfold rSvX;rw[rHead_put hok h4,g1]
 unfold rSvG;rw[hx,rHead_put hok h4,g2,if_neg (by rw[List.length_map];simp),if_neg (by rw[h];simp)]
theorem rSv_eq (b:ByteArray) (hb:b.size<=140737488355328):rSv b=takeSv b:=by
 by_cases h:(takeSv b).2=0
 ·obtain⟨e,g1,g2⟩:=takeSv_ok h;rw[e]at g1 g2;dsimp only at g1 g2;have:=rSv_put (raw_ok b hb) g1;rw[g2]at this;rw[this,e]
 ·rw[takeSv_err h];have hf:=frs_few b;unfold rSv
  cases hA:allF b with
  |nil=>rfl
  |cons p l=>
   rw[hA]at hf;rw[List.length_cons]at hf;dsimp only;split
   ·rfl
   unfold rSvG;split
   ·rfl
   split
   ·rfl
   ·rename_i h1 h2 h3
    exfalso
    have hok:=rSvX_ok p.2 l (by omega);have q1:(putSv (rSvX p.2 l)).2=0:=by
     by_cases q:(putSv (rSvX p.2 l)).2=0
     ·exact q
     ·exact absurd (.inr (.inl q)) h3
    have q2:bstr (putSv (rSvX p.2 l)).1=b:=by
     by_cases q:bstr (putSv (rSvX p.2 l)).1=b
     ·exact q
     ·exact absurd (.inr (.inr q)) h3
    have q3:=takeSv_put hok q1;rw[q2]at q3;rw[q3]at h;exact h rfl
