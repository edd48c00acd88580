/- Plain laws: packets. -/
import Derived.Test.YtfjhdboapcckpaaGreatDoorGdPo
import Derived.Test.YtfjhdboapcckpaaGreatDoorGdT8
set_option maxRecDepth 100000
namespace Gm
open Go
def blk (k:Int):Bool:=decide (2≤k∧k≤7)
def dat (k:Int):Bool:=decide (k=2∨k=6)
def ofV (k:Int):Shape×Bool:=(⟨decide (k=1),blk k,dat k⟩,decide (1≤k∧k≤13))
theorem not_t {b:Bool} (h:(!b)=true):b=false:=by cases b with | false=>rfl | true=>cases h
theorem not_f {b:Bool} (h:(!b)=false):b=true:=by cases b with | true=>rfl | false=>cases h
theorem packet_of_ok {k:Int} {K:Shape×Bool->Prop} (h:K (ofV k)):q50.F k K:=by
 unfold q50.F
 have t:∀ {n:Int},(k==n)=true->k=n:=fun e=>by simpa using e
 have f:∀ {n:Int},(k==n)=false->k≠n:=fun e=>by simpa using e
 refine cond_ok (fun e=>?_) (fun e1=>?_)
 ·cases t e;exact h
 refine cond_ok (fun e=>?_) (fun e2=>?_)
 ·cases t e;exact h
 refine cond_ok (fun e=>?_) (fun e3=>?_)
 ·cases t e;exact h
 refine cond_ok (fun e=>?_) (fun e4=>?_)
 ·cases t e;exact h
 refine cond_ok (fun e=>?_) (fun e5=>?_)
 ·cases t e;exact h
 refine cond_ok (fun e=>?_) (fun e6=>?_)
 ·cases t e;exact h
 refine cond_ok (fun e=>?_) (fun e7=>?_)
 ·cases t e;exact h
 refine cond_ok (fun e=>?_) (fun e8=>?_)
 ·cases t e;exact h
 refine cond_ok (fun e=>?_) (fun e9=>?_)
 ·cases t e;exact h
 refine cond_ok (fun e=>?_) (fun e10=>?_)
 ·cases t e;exact h
 refine cond_ok (fun e=>?_) (fun e11=>?_)
 ·cases t e;exact h
 refine cond_ok (fun e=>?_) (fun e12=>?_)
 ·cases t e;exact h
 refine cond_ok (fun e=>?_) (fun e13=>?_)
 ·cases t e;exact h
 have e1:=f e1
 have e2:=f e2
 have e3:=f e3
 have e4:=f e4
 have e5:=f e5
 have e6:=f e6
 have e7:=f e7
 have e8:=f e8
 have e9:=f e9
 have e10:=f e10
 have e11:=f e11
 have e12:=f e12
 have e13:=f e13
 have e:ofV k=(⟨false,false,false⟩,false):=by
  unfold ofV blk dat
  rw [decide_eq_false (by omega:¬ k=1),decide_eq_false (by omega:¬ (2≤k∧k≤7)),decide_eq_false (by omega:¬ (k=2∨k=6)),decide_eq_false (by omega:¬ (1≤k∧k≤13))]
 rw [e] at h
 exact h
theorem loop_round2 {α β:Type} {B:(α->Prop)->(α->Prop)->(β->Prop)->α->Prop} {n:Nat} {kx:α->Prop} {kr:β->Prop} {x:α}
  (h:∀ rec:α->Prop,rec=loopB B n kx kr->B rec kx kr x):loopB B (n+1) kx kr x:=h _ rfl
theorem mask_Set_ok {i:Int} {K:Int->Prop} (h1:0≤i∧i < 32->∀ n:Nat,0 < n->K n) (h2:¬ (0≤i∧i < 32)->K 0):q57.F 0 [i] K:=by
 unfold q57.F q57.FV q56.F q56.FV
 refine⟨2,?_⟩
 refine loop_round2 fun rec hrec=>?_
 unfold q56.b0V
 dsimp only
 refine cond_t (decide_eq_true (by simp)) (oget_ok rfl (mask_there_ok (cond_ok (fun h=>?_) (fun h=>?_))))
 ·have h:=of_decide_eq_true h
  refine gd_ok (decide_eq_true h.1) ?_
  rw [hrec]
  refine loop_round2 fun rec hrec=>?_
  unfold q56.b0V
  dsimp only
  refine cond_f (decide_eq_false (by simp;decide)) ?_
  obtain ⟨i,rfl⟩:∃ n:Nat,i=n:=⟨i.toNat,by omega⟩
  have hi:i < 32:=by omega
  have e:=ishl_nat (k:=.u32) rfl 1 (y:=i) (by show i≤32;omega)
  have hp:2 ^ i < 2 ^ 32:=Nat.pow_lt_pow_right (by decide) hi
  have e':ishl .u32 1 (i:Int)=((2 ^ i:Nat):Int):=by
   rw [show (1:Int)=((1:Nat):Int) from rfl,e,Nat.one_mul]
   congr 1
   exact Nat.mod_eq_of_lt hp
  have z:∀ n:Nat,n < 2 ^ 32->ior .u32 0 (n:Int)=(n:Int):=by
   intro n hn
   have:=ior_nat (k:=.u32) rfl (x:=0) (y:=n) (by decide) hn
   simpa using this
  rw [e',z _ hp,z _ hp]
  exact h1 h _ (Nat.two_pow_pos i)
 ·have h:=of_decide_eq_false h
  rw [hrec]
  refine loop_round2 fun rec hrec=>?_
  unfold q56.b0V
  dsimp only
  refine cond_f (decide_eq_false (by simp;decide)) ?_
  exact h2 h
def pTail (p:Packet):Bool:=bif dat p.kind then((p.data.length:Int)==8)else(p.data==([]:Str))
def pBlk (p:Packet):Bool:=bif blk p.kind then decide (0≤p.block∧p.block < 32)else(p.block==0)
def pHel (p:Packet):Bool:=bif decide (p.kind=1)then hRight p.hello else hEq p.hello zeroH
def pRight (p:Packet):Bool:=decide (1≤p.kind∧p.kind≤13)&&(pHel p&&(pBlk p&&pTail p))
theorem tail_ok {p:Packet} {b:Bool} {K:Bool->Prop} (hb:b=dat p.kind) (h:K (pTail p)):bif b then(K ((p.data.length:Int)==8))else(K (p.data==([]:Str))):=by
 subst hb
 unfold pTail at h
 refine cond_ok (fun e=>?_) (fun e=>?_) <;> rw [e] at h <;> exact h
theorem hEq_of {a b:Hello} (h:hEq a b=true):a=b:=by
 obtain ⟨a1,⟨a2,a3,a4,a5⟩,a6,a7,a8,a9,a10⟩:=a
 obtain ⟨b1,⟨b2,b3,b4,b5⟩,b6,b7,b8,b9,b10⟩:=b
 simp only [hEq,Bool.and_eq_true,beq_iff_eq] at h
 obtain ⟨rfl,⟨rfl,rfl,⟨rfl,rfl,_⟩,_⟩,rfl,rfl,rfl,rfl,rfl,_⟩:=h
 rfl
theorem packet_Right_ok {p:Packet} (hw:wHello p.hello) {K:Bool->Prop} (h:K (pRight p)):q58.F p K:=by
 unfold q58.F q58.FV
 refine packet_of_ok (cond_ok (fun e=>?_) (fun e=>?_))
 ·have e:decide (1≤p.kind∧p.kind≤13)=false:=not_t e
  unfold pRight at h
  rw [e,Bool.false_and] at h
  exact h
 have e:decide (1≤p.kind∧p.kind≤13)=true:=not_f e
 have step:∀ {b:Bool},(∀ {K:Bool->Prop},K (pBlk p&&pTail p)->(bif blk p.kind then(q57.F 0 ([p.block]:List Int) fun r3=>(bif(r3==0)then(K false)else(bif(!blk p.kind)then(bif(p.block != 0)then(K false)else(bif dat p.kind then(K ((p.data.length:Int)==8))else(K (p.data==([]:Str)))))else(bif dat p.kind then(K ((p.data.length:Int)==8))else(K (p.data==([]:Str)))))))else(bif(!blk p.kind)then(bif(p.block != 0)then(K false)else(bif dat p.kind then(K ((p.data.length:Int)==8))else(K (p.data==([]:Str)))))else(bif dat p.kind then(K ((p.data.length:Int)==8))else(K (p.data==([]:Str))))))):=by
  intro _ K k
  unfold pBlk at k
  refine cond_ok (fun e=>?_) (fun e=>?_)
  ·rw [e] at k ⊢
   refine mask_Set_ok (fun hi n hn=>?_) (fun hi=>?_)
   ·rw [cond_true,decide_eq_true hi,Bool.true_and] at k
    exact cond_f (by simp;omega) (cond_f rfl (tail_ok rfl k))
   ·rw [cond_true,decide_eq_false hi,Bool.false_and] at k
    exact cond_t rfl k
  ·rw [e] at k ⊢
   rw [cond_false] at k
   refine cond_t rfl (cond_ok (fun e2=>?_) (fun e2=>?_))
   ·have:(p.block==0)=false:=by simpa using e2
    rw [this,Bool.false_and] at k
    exact k
   ·have:(p.block==0)=true:=by simpa using e2
    rw [this,Bool.true_and] at k
    exact tail_ok rfl k
 unfold pRight at h
 rw [e,Bool.true_and] at h
 unfold pHel at h
 refine hello_Right_ok hw (cond_ok (fun e1=>?_) (fun e1=>?_))
 ·have e1:decide (p.kind=1)≠hRight p.hello:=fun hh=>by
   have e1:(decide (p.kind=1)==hRight p.hello)=false:=not_t e1
   rw [hh] at e1
   simp at e1
  cases hk:decide (p.kind=1) with
  | true=>
   rw [hk] at h e1
   have:hRight p.hello=false:=by cases hh:hRight p.hello with | false=>rfl | true=>exact absurd hh.symm e1
   rw [cond_true,this,Bool.false_and] at h
   exact h
  | false=>
   rw [hk] at h e1
   have:hEq p.hello zeroH=false:=by
    cases hh:hEq p.hello zeroH with
    | false=>rfl
    | true=>rw [hEq_of hh,rZ] at e1;exact absurd rfl e1
   rw [cond_false,this,Bool.false_and] at h
   exact h
 have e1:decide (p.kind=1)=hRight p.hello:=eq_of_beq (not_f e1)
 refine cond_ok (fun e2=>?_) (fun e2=>?_)
 ·have e2:decide (p.kind=1)=false:=not_t e2
  rw [e2,cond_false] at h
  refine cond_ok (fun e3=>?_) (fun e3=>?_)
  ·have e3:hEq p.hello zeroH=false:=by
    have e3:(!hEq p.hello zeroH)=true:=e3
    simpa using e3
   rw [e3,Bool.false_and] at h
   exact h
  ·have e3:hEq p.hello zeroH=true:=by
    have e3:(!hEq p.hello zeroH)=false:=e3
    simpa using e3
   rw [e3,Bool.true_and] at h
   exact step (b:=true) h
 ·have e2:decide (p.kind=1)=true:=not_f e2
  rw [e2,cond_true,← e1,e2,Bool.true_and] at h
  exact step (b:=true) h
theorem ref13_block_ok {k:Int} {K:Bool->Prop} (h:K (blk k)):q112.F k K:=by
 unfold q112.F
 unfold blk at h
 refine cond_ok (fun e=>?_) (fun e=>?_)
 ·have e:k≥2:=of_decide_eq_true e
  rw [show decide (2≤k∧k≤7)=decide (k≤7) by rw [Bool.eq_iff_iff,decide_eq_true_eq,decide_eq_true_eq];omega] at h
  exact h
 ·have e:¬ k≥2:=of_decide_eq_false e
  rw [decide_eq_false (by omega)] at h
  exact h
theorem ref13_data_ok {k:Int} {K:Bool->Prop} (h:K (dat k)):q113.F k K:=by
 unfold q113.F
 unfold dat at h
 refine cond_ok (fun e=>?_) (fun e=>?_)
 ·have e:k=2:=by simpa using e
  rw [decide_eq_true (.inl e)] at h
  exact h
 ·have e:k≠2:=by simpa using e
  rw [show decide (k=2∨k=6)=(k==6) by rw [Bool.eq_iff_iff,decide_eq_true_eq,beq_iff_eq];omega] at h
  exact h
theorem ref13_Right_ok {p:Packet} (hw:wHello p.hello) {K:Bool->Prop} (h:K (pRight p)):q114.F p K:=by
 unfold q114.F q114.FV
 unfold pRight at h
 refine cond_ok (fun e=>?_) (fun e=>?_)
 ·have e:p.kind < 1:=of_decide_eq_true e
  rw [decide_eq_false (by omega),Bool.false_and] at h;exact h
 have e:¬ p.kind < 1:=of_decide_eq_false e
 refine cond_ok (fun e2=>?_) (fun e2=>?_)
 ·have e2:p.kind > 13:=of_decide_eq_true e2
  rw [decide_eq_false (by omega),Bool.false_and] at h;exact h
 have e2:¬ p.kind > 13:=of_decide_eq_false e2
 rw [decide_eq_true (by omega),Bool.true_and] at h
 have step:∀ {K:Bool->Prop},K (pBlk p&&pTail p)->(bif(decide (p.block < 0))then(K false)else(bif(decide (p.block > 31))then(K false)else(q112.F p.kind fun r2=>(bif(!r2)then(bif(p.block != 0)then(K false)else(q113.F p.kind fun r3=>(bif r3 then(K ((p.data.length:Int)==8))else(K (p.data==([]:Str))))))else(q113.F p.kind fun r4=>(bif r4 then(K ((p.data.length:Int)==8))else(K (p.data==([]:Str))))))))):=by
  intro K k
  unfold pBlk at k
  have out:¬ (0≤p.block∧p.block < 32)->K false:=by
   intro ho
   rw [decide_eq_false ho,show(p.block==0)=false by simp;omega] at k
   cases hb:blk p.kind <;> rw [hb] at k <;> exact k
  refine cond_ok (fun e=>?_) (fun e=>?_)
  ·have e:p.block < 0:=of_decide_eq_true e
   exact out (by omega)
  have e:¬ p.block < 0:=of_decide_eq_false e
  refine cond_ok (fun e2=>?_) (fun e2=>?_)
  ·have e2:p.block > 31:=of_decide_eq_true e2
   exact out (by omega)
  have e2:¬ p.block > 31:=of_decide_eq_false e2
  refine ref13_block_ok ?_
  rw [decide_eq_true (by omega:0≤p.block∧p.block < 32)] at k
  refine cond_ok (fun e3=>?_) (fun e3=>?_)
  ·have e3:blk p.kind=false:=by simpa using e3
   rw [e3,cond_false] at k
   refine cond_ok (fun e4=>?_) (fun e4=>?_)
   ·have:(p.block==0)=false:=by simpa using e4
    rw [this,Bool.false_and] at k
    exact k
   ·have:(p.block==0)=true:=by simpa using e4
    rw [this,Bool.true_and] at k
    exact ref13_data_ok (tail_ok rfl k)
  ·have e3:blk p.kind=true:=by simpa using e3
   rw [e3,cond_true,Bool.true_and] at k
   exact ref13_data_ok (tail_ok rfl k)
 unfold pHel at h
 refine cond_ok (fun e3=>?_) (fun e3=>?_)
 ·have e3:p.kind=1:=by simpa using e3
  rw [decide_eq_true e3,cond_true] at h
  refine ref10_Right_ok hw (cond_ok (fun e4=>?_) (fun e4=>?_))
  ·have e4:hRight p.hello=false:=by simpa using e4
   rw [e4,Bool.false_and] at h
   exact h
  ·have e4:hRight p.hello=true:=by simpa using e4
   rw [e4,Bool.true_and] at h
   exact cond_f (by simp [e3]) (step h)
 ·have e3:p.kind≠1:=by simpa using e3
  rw [decide_eq_false e3,cond_false] at h
  refine cond_t (by simpa using e3) (cond_ok (fun e4=>?_) (fun e4=>?_))
  ·have e4:hEq p.hello zeroH=false:=by
    have e4:(!hEq p.hello zeroH)=true:=e4
    simpa using e4
   rw [e4,Bool.false_and] at h
   exact h
  ·have e4:hEq p.hello zeroH=true:=by
    have e4:(!hEq p.hello zeroH)=false:=e4
    simpa using e4
   rw [e4,Bool.true_and] at h
   exact step h
end Gm

set_option maxRecDepth 100000
namespace Gm
open Go
def pBytes (p:Packet):Str:=
 bytesOfInts [IntKind.u8.wrap p.kind]++be p.session.toNat 8++((bif decide (p.kind=1)then hBytes p.hello else [])++((bif blk p.kind then bytesOfInts [IntKind.u8.wrap p.block] else [])++p.data))
def encP (p:Packet):Str×Int:=if pRight p=true then(sealV (pBytes p),0)else([],1)
theorem one_len (x:Int):(bytesOfInts [x]).length=1:=rfl
theorem right_parts {p:Packet} (h:pRight p=true):(1≤p.kind∧p.kind≤13)∧pHel p=true∧pBlk p=true∧pTail p=true:=by
 unfold pRight at h
 simp only [Bool.and_eq_true,decide_eq_true_eq] at h
 exact⟨h.1,h.2.1,h.2.2.1,h.2.2.2⟩
theorem tail_len {p:Packet} (h:pTail p=true):p.data.length≤8:=by
 unfold pTail at h
 cases e:dat p.kind with
 | true=>
  rw [e,cond_true] at h
  have:(p.data.length:Int)=8:=by simpa using h
  omega
 | false=>
  rw [e,cond_false] at h
  have:p.data=[]:=by simpa using h
  rw [this];simp
theorem packet_Encode_ok {p:Packet} (hw:wHello p.hello) (hs:inK .u64 p.session) {K:(Str×Int)->Prop} (h:K (encP p)):q66.F p K:=by
 unfold q66.F q66.FV
 unfold encP at h
 refine packet_Right_ok hw (cond_ok (fun e=>?_) (fun e=>?_))
 ·rw [if_neg (by intro hh;rw [hh] at e;cases e)] at h;exact h
 have e:pRight p=true:=by simpa using e
 rw [if_pos e] at h
 obtain ⟨hk,hH,hB,hT⟩:=right_parts e
 have hl:=tail_len hT
 refine packet_of_ok ?_
 obtain ⟨kind,session,hello,block,data⟩:=p
 have hs:0≤session∧session≤18446744073709551615:=hs
 obtain ⟨s,rfl⟩:∃ n:Nat,session=n:=⟨session.toNat,by omega⟩
 dsimp only at *
 refine num_Put64_ok (gd_ok (fits_small (by rw [one_len,be_length];decide)) (cond_ok (fun e1=>?_) (fun e1=>?_)))
 ·have e1:decide (kind=1)=true:=e1
  have e1':kind=1:=of_decide_eq_true e1
  subst e1'
  have hR:hRight hello=true:=hH
  refine hello_Encode_ok hw ?_
  have eV:encV hello=(hBytes hello,0):=by unfold encV;rw [if_pos hR]
  rw [eV]
  refine gd_ok (fits_small (by simp only [List.length_append,one_len,be_length,hBytes_length];decide)) (cond_f rfl (gd_ok (fits_small (by simp only [List.length_append,one_len,be_length,hBytes_length];omega)) (check_Seal_ok (wStr_of (by simp only [List.length_append,one_len,be_length,hBytes_length];omega)) ?_)))
  have eB:pBytes ⟨1,(s:Int),hello,block,data⟩=bytesOfInts [IntKind.u8.wrap 1]++be s 8++hBytes hello++data:=by
   show bytesOfInts [IntKind.u8.wrap 1]++be s 8++(hBytes hello++([]++data))=_
   simp only [List.nil_append,List.append_assoc]
  rw [eB] at h
  exact h
 ·have e1:decide (kind=1)=false:=e1
  refine cond_ok (fun e2=>?_) (fun e2=>?_)
  ·have e2:blk kind=true:=e2
   refine gd_ok (fits_small (by simp only [List.length_append,one_len,be_length];decide)) (gd_ok (fits_small (by simp only [List.length_append,one_len,be_length];omega)) (check_Seal_ok (wStr_of (by simp only [List.length_append,one_len,be_length];omega)) ?_))
   have eB:pBytes ⟨kind,(s:Int),hello,block,data⟩=bytesOfInts [IntKind.u8.wrap kind]++be s 8++bytesOfInts [IntKind.u8.wrap block]++data:=by
    unfold pBytes
    dsimp only
    rw [e1,e2]
    simp only [cond_false,cond_true,List.nil_append,List.append_assoc,Int.toNat_natCast]
   rw [eB] at h
   exact h
  ·have e2:blk kind=false:=e2
   refine gd_ok (fits_small (by simp only [List.length_append,one_len,be_length];omega)) (check_Seal_ok (wStr_of (by simp only [List.length_append,one_len,be_length];omega)) ?_)
   have eB:pBytes ⟨kind,(s:Int),hello,block,data⟩=bytesOfInts [IntKind.u8.wrap kind]++be s 8++data:=by
    unfold pBytes
    dsimp only
    rw [e1,e2]
    simp only [cond_false,List.nil_append,Int.toNat_natCast]
   rw [eB] at h
   exact h
theorem ref13_bytes_ok {p:Packet} (hw:wHello p.hello) (hs:inK .u64 p.session) (hr:pRight p=true) {K:Str->Prop} (h:K (pBytes p)):q116.F p K:=by
 unfold q116.F q116.FV
 obtain ⟨hk,hH,hB,hT⟩:=right_parts hr
 have hl:=tail_len hT
 obtain ⟨kind,session,hello,block,data⟩:=p
 have hs:0≤session∧session≤18446744073709551615:=hs
 obtain ⟨s,rfl⟩:∃ n:Nat,session=n:=⟨session.toNat,by omega⟩
 dsimp only at *
 refine ref01_Put64_ok (by omega) (gd_ok (fits_small (by rw [one_len,be_length];decide)) (cond_ok (fun e1=>?_) (fun e1=>?_)))
 ·have e1':kind=1:=by simpa using e1
  subst e1'
  have hR:hRight hello=true:=hH
  refine ref10_Encode_ok hw ?_
  have eV:encV hello=(hBytes hello,0):=by unfold encV;rw [if_pos hR]
  rw [eV]
  refine gd_ok (fits_small (by simp only [List.length_append,one_len,be_length,hBytes_length];decide)) (ref13_block_ok (cond_f rfl (gd_ok (fits_small (by simp only [List.length_append,one_len,be_length,hBytes_length];omega)) ?_)))
  have eB:pBytes ⟨1,(s:Int),hello,block,data⟩=bytesOfInts [IntKind.u8.wrap 1]++be s 8++hBytes hello++data:=by
   show bytesOfInts [IntKind.u8.wrap 1]++be s 8++(hBytes hello++([]++data))=_
   simp only [List.nil_append,List.append_assoc]
  rw [eB] at h
  exact h
 ·have e1:decide (kind=1)=false:=decide_eq_false (by simpa using e1)
  refine ref13_block_ok (cond_ok (fun e2=>?_) (fun e2=>?_))
  ·refine gd_ok (fits_small (by simp only [List.length_append,one_len,be_length];decide)) (gd_ok (fits_small (by simp only [List.length_append,one_len,be_length];omega)) ?_)
   have eB:pBytes ⟨kind,(s:Int),hello,block,data⟩=bytesOfInts [IntKind.u8.wrap kind]++be s 8++bytesOfInts [IntKind.u8.wrap block]++data:=by
    unfold pBytes
    dsimp only
    rw [e1,e2]
    simp only [cond_false,cond_true,List.nil_append,List.append_assoc,Int.toNat_natCast]
   rw [eB] at h
   exact h
  ·refine gd_ok (fits_small (by simp only [List.length_append,one_len,be_length];omega)) ?_
   have eB:pBytes ⟨kind,(s:Int),hello,block,data⟩=bytesOfInts [IntKind.u8.wrap kind]++be s 8++data:=by
    unfold pBytes
    dsimp only
    rw [e1,e2]
    simp only [cond_false,List.nil_append,Int.toNat_natCast]
   rw [eB] at h
   exact h
theorem pBytes_len {p:Packet} (h:pRight p=true):(pBytes p).length≤100:=by
 obtain ⟨hk,hH,hB,hT⟩:=right_parts h
 have hl:=tail_len hT
 unfold pBytes
 cases decide (p.kind=1) <;> cases blk p.kind <;> simp only [cond_true,cond_false,List.length_append,one_len,be_length,hBytes_length,List.length_nil] <;> omega
theorem ref13_Encode_ok {p:Packet} (hw:wHello p.hello) (hs:inK .u64 p.session) {K:(Str×Int)->Prop} (h:K (encP p)):q117.F p K:=by
 unfold q117.F q117.FV
 unfold encP at h
 refine ref13_Right_ok hw (cond_ok (fun e=>?_) (fun e=>?_))
 ·rw [if_neg (by intro hh;rw [hh] at e;cases e)] at h;exact h
 have e:pRight p=true:=by simpa using e
 rw [if_pos e] at h
 exact ref13_bytes_ok hw hs e (ref02_Seal_ok (wStr_of (by have:=pBytes_len e;omega)) h)
def zeroP:Packet:=⟨0,0,zeroH,0,[]⟩
def kOf (t:Str):Int:=((t.getD 0 0).toNat:Int)
def sOf (t:Str):Int:=(unbe (sub t 1 9):Int)
def pOf (t:Str):Option Packet:=
 if kOf t=1 then(if (decV (t.drop 9)).2=0 then some ⟨kOf t,sOf t,(decV (t.drop 9)).1,0,[]⟩ else none)
 else if blk (kOf t)=true then(if t.drop 9=[] then none else some ⟨kOf t,sOf t,zeroH,(((t.drop 9).getD 0 0).toNat:Int),(t.drop 9).drop 1⟩)
 else some ⟨kOf t,sOf t,zeroH,0,t.drop 9⟩
def okP (p:Packet):Packet×Int:=if pRight p=true then(p,0)else(zeroP,2)
def decT (t:Str):Packet×Int:=match pOf t with
 | some p=>okP p
 | none=>(zeroP,2)
def decP (b:Str):Packet×Int:=if (openV b).2≠0 then(zeroP,(openV b).2)else if (openV b).1.length < 9 then(zeroP,2)else decT (openV b).1
theorem decV_cases (b:Str):(decV b=(hOfBytes b,0)∧b.length=38∧(b.getD 1 0).toNat < 16∧hRight (hOfBytes b)=true)∨decV b=(zeroH,2):=by
 unfold decV
 by_cases h:b.length=38∧(b.getD 1 0).toNat < 16∧hRight (hOfBytes b)=true
 ·rw [if_pos h];exact .inl ⟨rfl,h⟩
 ·rw [if_neg h];exact .inr rfl
theorem wDec (b:Str):wHello (decV b).1:=by
 rcases decV_cases b with ⟨e,hl,_⟩ | e
 ·rw [e];exact wH_of hl
 ·rw [e];exact wZ
theorem openV_len (s:Str):(openV s).1.length≤s.length:=by
 unfold openV
 split
 ·simp
 split
 ·simp
 ·simp
theorem okP_t {p:Packet} (h:pRight p=true):okP p=(p,0):=by unfold okP;rw [if_pos h]
theorem okP_f {p:Packet} (h:pRight p=false):okP p=(zeroP,2):=by unfold okP;rw [if_neg (by rw [h];simp)]
end Gm

set_option maxRecDepth 100000
namespace Gm
open Go
theorem u8_back (c:UInt8):bytesOfInts [IntKind.u8.wrap (c.toNat:Int)]=[c]:=by
 have h:=u8_lt c
 simp only [bytesOfInts,List.map_cons,List.map_nil]
 rw [wrap_u8,show(c.toNat:Int) % 256=(c.toNat:Int) by omega,Int.toNat_natCast]
 congr 1
 apply UInt8.toNat_inj.1
 rw [toNat_ofNat]
 omega
theorem split9 {t:Str} (h:9≤t.length):[t.getD 0 0]++sub t 1 9++t.drop 9=t:=by
 match t,h with
 | x :: r,h=>
  show [x]++sub (x :: r) 1 9++(x :: r).drop 9=x :: r
  have e:sub (x :: r) 1 9=r.take 8:=rfl
  rw [e]
  show x :: (r.take 8++r.drop 8)=x :: r
  rw [List.take_append_drop]
theorem bytes_pOf {t:Str} {p:Packet} (h:9≤t.length) (hp:pOf t=some p):pBytes p=t:=by
 have hb:be (sOf t).toNat 8=sub t 1 9:=by
  unfold sOf
  rw [Int.toNat_natCast,be_unbe 8 _ (sub_len (by omega))]
 have key:∀ (hel:Hello) (blkv:Int) (data:Str),((bif decide (kOf t=1)then hBytes hel else [])++((bif blk (kOf t)then bytesOfInts [IntKind.u8.wrap blkv] else [])++data))=t.drop 9->
   pBytes ⟨kOf t,sOf t,hel,blkv,data⟩=t:=by
  intro hel blkv data he
  unfold pBytes
  dsimp only
  rw [he,hb]
  unfold kOf
  rw [u8_back]
  exact split9 h
 unfold pOf at hp
 split at hp
 ·rename_i e1
  split at hp
  ·rename_i e2
   cases hp
   refine key _ _ _ ?_
   rw [decide_eq_true e1,e1,cond_true]
   rcases decV_cases (t.drop 9) with ⟨e,hl,h16,_⟩ | e
   ·rw [e]
    show hBytes (hOfBytes (t.drop 9))++([]++[])=_
    rw [hBytes_of hl h16]
    simp
   ·rw [e] at e2;cases e2
  ·cases hp
 ·rename_i e1
  split at hp
  ·rename_i e2
   split at hp
   ·cases hp
   ·rename_i e3
    cases hp
    refine key _ _ _ ?_
    rw [decide_eq_false e1,e2,cond_false,cond_true,u8_back]
    match ht:t.drop 9,e3 with
    | c :: r,_=>rfl
  ·rename_i e2
   cases hp
   refine key _ _ _ ?_
   rw [decide_eq_false e1,show blk (kOf t)=false by simpa using e2]
   rfl
theorem fin13 {p:Packet} {t:Str} (hw:wHello p.hello) (hs:inK .u64 p.session) (hb:pBytes p=t) {K:(Packet×Int)->Prop} (h:K (okP p)) :
  q114.F p fun r=>bif !r then K (zeroP,2)else q116.F p fun r8=>bif !(r8==t)then K (zeroP,2)else K (p,0):=by
 refine ref13_Right_ok hw (cond_ok (fun e=>?_) (fun e=>?_))
 ·rw [okP_f (not_t e)] at h;exact h
 ·rw [okP_t (not_f e)] at h
  refine ref13_bytes_ok hw hs (not_f e) (cond_f ?_ h)
  rw [hb]
  simp
theorem sess {t:Str} (h:9≤t.length):inK .u64 (sOf t):=by
 have h1:=unbe_lt 8 (sub t 1 9) (sub_len (by omega))
 have h2:(256:Nat) ^ 8=18446744073709551616:=by decide
 show(0:Int)≤(unbe (sub t 1 9):Int)∧(unbe (sub t 1 9):Int)≤18446744073709551615
 omega
theorem ref13_Decode_ok {b:Str} (hs:b.length≤10000) {K:(Packet×Int)->Prop} (h:K (decP b)):q153.F b K:=by
 unfold q153.F q153.FV
 unfold decP at h
 have hol:=openV_len b
 refine ref02_Open_ok (wStr_of (by omega)) (cond_ok (fun e1=>?_) (fun e1=>?_))
 ·rw [if_pos (by simpa using e1)] at h;exact h
 rw [if_neg (by simpa using e1)] at h
 generalize (openV b).1=t at h hol ⊢
 refine cond_ok (fun e2=>?_) (fun e2=>?_)
 ·have e2:(t.length:Int) < 9:=of_decide_eq_true e2
  rw [if_pos (by omega)] at h;exact h
 have e2:¬ (t.length:Int) < 9:=of_decide_eq_false e2
 have hl:9≤t.length:=by omega
 rw [if_neg (by omega)] at h
 unfold decT at h
 refine gd_ok (by simp;omega) ?_
 show q30.F (sub t 1 9) _
 refine ref01_Get64_ok ?_
 rw [getN_of (sub_len (by omega))]
 refine oget_ok (getI_lit 0 (i:=0) (by omega)) (gd_ok (by simp;omega) ?_)
 have e0:IntKind.i64.wrap ((t.getD 0 0).toNat:Int)=kOf t:=by
  have:=u8_lt (t.getD 0 0)
  rw [wrap_i64 (by omega)]
  rfl
 have es:sub t (Int.toNat 9) t.length=t.drop 9:=sub_drop
 rw [e0,es]
 have hpB:=fun p=>bytes_pOf (p:=p) hl
 refine cond_ok (fun e4=>?_) (fun e4=>?_)
 ·have e4:kOf t=1:=by simpa using e4
  unfold pOf at h hpB
  rw [if_pos e4] at h hpB
  refine ref10_Decode_ok (cond_ok (fun e5=>?_) (fun e5=>?_))
  ·rw [if_neg (by simpa using e5)] at h
   exact h
  ·have e5':(decV (t.drop 9)).2=0:=by simpa using e5
   rw [if_pos e5'] at h hpB
   refine ref13_block_ok ?_
   rw [show blk (kOf t)=false by rw [e4];rfl]
   exact cond_f rfl (fin13 (p:=⟨kOf t,sOf t,(decV (t.drop 9)).1,0,[]⟩) (wDec _) (sess hl) (hpB _ rfl) h)
 ·have e4:kOf t≠1:=by simpa using e4
  unfold pOf at h hpB
  rw [if_neg e4] at h hpB
  refine ref13_block_ok (cond_ok (fun e5=>?_) (fun e5=>?_))
  ·rw [if_pos e5] at h hpB
   refine cond_ok (fun e6=>?_) (fun e6=>?_)
   ·have e6:((t.drop 9).length:Int) > 0:=of_decide_eq_true e6
    have hpos:0 < (t.drop 9).length:=by omega
    have hne:t.drop 9≠[]:=List.length_pos_iff.1 hpos
    rw [if_neg hne] at h hpB
    refine oget_ok (getI_lit 0 (i:=0) hpos) (gd_ok (by simp;simp at hpos;omega) ?_)
    have es2:sub (t.drop 9) (Int.toNat 1) (t.drop 9).length=(t.drop 9).drop 1:=sub_drop
    have e7:IntKind.i64.wrap (((t.drop 9).getD 0 0).toNat:Int)=(((t.drop 9).getD 0 0).toNat:Int):=by
     have:=u8_lt ((t.drop 9).getD 0 0)
     exact wrap_i64 (by omega)
    rw [es2,e7]
    exact fin13 (p:=⟨kOf t,sOf t,zeroH,(((t.drop 9).getD 0 0).toNat:Int),(t.drop 9).drop 1⟩) wZ (sess hl) (hpB _ rfl) h
   ·have e6:¬ ((t.drop 9).length:Int) > 0:=of_decide_eq_false e6
    have hnil:t.drop 9=[]:=List.eq_nil_of_length_eq_zero (by omega)
    rw [if_pos hnil] at h
    rw [hnil]
    refine ref13_Right_ok (p:=⟨kOf t,sOf t,zeroH,0,[]⟩) wZ (cond_ok (fun _=>h) (fun e=>?_))
    refine ref13_bytes_ok (p:=⟨kOf t,sOf t,zeroH,0,[]⟩) wZ (sess hl) (not_f e) (cond_t ?_ h)
    have hlen:(pBytes ⟨kOf t,sOf t,zeroH,0,[]⟩).length=10:=by
     unfold pBytes
     dsimp only
     rw [decide_eq_false e4,e5]
     simp only [cond_true,cond_false,List.length_append,one_len,be_length,List.length_nil]
    have h9:t.length=9:=by
     have:(t.drop 9).length=0:=by rw [hnil];rfl
     rw [List.length_drop] at this
     omega
    have hne:pBytes ⟨kOf t,sOf t,zeroH,0,[]⟩≠t:=fun hh=>by rw [hh] at hlen;omega
    have:(pBytes ⟨kOf t,sOf t,zeroH,0,[]⟩==t)=false:=by simpa using hne
    show(!(pBytes ⟨kOf t,sOf t,zeroH,0,[]⟩==t))=true
    rw [this]
    rfl
  ·rw [if_neg (by rw [e5];simp)] at h hpB
   exact fin13 (p:=⟨kOf t,sOf t,zeroH,0,t.drop 9⟩) wZ (sess hl) (hpB _ rfl) h
theorem decP_cases (b:Str):(∃ p,decP b=(p,0)∧pRight p=true∧wHello p.hello∧inK .u64 p.session∧sealV (pBytes p)=b)∨∃ e,e≠0∧decP b=(zeroP,e):=by
 unfold decP
 by_cases h1:(openV b).2≠0
 ·rw [if_pos h1];exact .inr ⟨_,h1,rfl⟩
 rw [if_neg h1]
 by_cases h2:(openV b).1.length < 9
 ·rw [if_pos h2];exact .inr ⟨2,by decide,rfl⟩
 rw [if_neg h2]
 have hseal:sealV (openV b).1=b:=by
  have h1:(openV b).2=0:=Classical.not_not.1 h1
  unfold openV at h1 ⊢
  split at h1
  ·cases h1
  ·rename_i h3
   rw [if_neg h3]
   split at h1
   ·rename_i h4
    rw [if_pos h4]
    exact h4
   ·cases h1
 generalize ht:(openV b).1=t at h2 hseal ⊢
 unfold decT
 cases hp:pOf t with
 | none=>exact .inr ⟨2,by decide,rfl⟩
 | some p=>
  have hB:=bytes_pOf (by omega) hp
  cases hr:pRight p with
  | false=>exact .inr ⟨2,by decide,okP_f hr⟩
  | true=>
   refine .inl ⟨p,okP_t hr,hr,?_,?_,by rw [hB];exact hseal⟩
   ·unfold pOf at hp
    split at hp
    ·split at hp
     ·cases hp;exact wDec _
     ·cases hp
    ·split at hp
     ·split at hp
      ·cases hp
      ·cases hp;exact wZ
     ·cases hp;exact wZ
   ·have:=sess (t:=t) (by omega)
    unfold pOf at hp
    split at hp
    ·split at hp
     ·cases hp;exact this
     ·cases hp
    ·split at hp
     ·split at hp
      ·cases hp
      ·cases hp;exact this
     ·cases hp;exact this
def readP (b:Str) (session:Int):Packet×Int:=if (decP b).2=0 then(if (decP b).1.session=session then decP b else(zeroP,16))else decP b
theorem ref13_Read_ok {b:Str} {session:Int} (hs:b.length≤10000) {K:(Packet×Int)->Prop} (h:K (readP b session)):q154.F b session K:=by
 unfold q154.F q154.FV
 unfold readP at h
 refine ref13_Decode_ok hs (cond_ok (fun e=>?_) (fun e=>?_))
 ·have e:(decP b).2≠0:=by simpa using e
  rw [if_neg e] at h
  rcases decP_cases b with ⟨p,e1,_⟩ | ⟨n,hn,e1⟩
  ·rw [e1] at e;exact absurd rfl e
  ·rw [e1] at h ⊢;exact h
 ·have e:(decP b).2=0:=by simpa using e
  rw [if_pos e] at h
  refine cond_ok (fun e2=>?_) (fun e2=>?_)
  ·rw [if_neg (by simpa using e2)] at h;exact h
  ·rw [if_pos (by simpa using e2)] at h
   rw [show decP b=((decP b).1,(decP b).2) from rfl,e] at h
   exact h
end Gm

set_option maxRecDepth 100000
namespace Gm
open Go
def hasM (m i:Int):Bool:=decide (0≤i∧i < 32)&&m.toNat.testBit i.toNat
def setM (m i:Int):Int:=if 0≤i∧i < 32 then((m.toNat ||| 2 ^ i.toNat:Nat):Int)else m
def clrM (m i:Int):Int:=if hasM m i=true then m - ((2 ^ i.toNat:Nat):Int)else m
def orM (a b:Int):Int:=((a.toNat ||| b.toNat:Nat):Int)
def allM (b:Int):Int:=if 1≤b∧b≤32 then((2 ^ b.toNat - 1:Nat):Int)else 0
def bitsM (m:Int):List Nat:=(List.range 32).filter fun i=>m.toNat.testBit i
def nextM (m:Int):Int×Bool:=match bitsM m with
 | i :: _=>((i:Int),true)
 | []=>(0,false)
def mintVec (v:Vec) (g:Int):Vec:=if v.bitmap=0 then ⟨g,v.current,v.old0,v.old1⟩ else ⟨g,v.bitmap,v.current,v.old0⟩
def retire (v:Vec):Vec:=if v.bitmap=0 then v else ⟨v.current,0,v.bitmap,v.old0⟩
def fromVec (v:Vec) (g:Int):Vec:=⟨v.current,g,v.old0,v.old1⟩
def place (v:Vec) (g:Int):Int:=
 if g=0 then -1 else if v.current=g then 0 else if v.bitmap=g then 1 else if v.old0=g then 2 else if v.old1=g then 3 else -1
def zV:Vec:=⟨0,0,0,0⟩
def zS:Super:=⟨0,zV,false,false,false⟩
def supR (s:Super):Bool:=decide (1≤s.blocks∧s.blocks≤32) && !(s.vector.current==0)
def sBytes (s:Super):Str:=
 [71,77,1]++[UInt8.ofNat s.blocks.toNat,UInt8.ofNat (fv [s.inc,s.pri,s.dis])]++be s.vector.current.toNat 8++be s.vector.bitmap.toNat 8++be s.vector.old0.toNat 8++be s.vector.old1.toNat 8
def encS6 (s:Super):Str×Int:=if supR s=true then(sealV (sBytes s),0)else([],1)
def numAt (t:Str) (i:Nat):Int:=(unbe (sub t i (i+8)):Int)
def sOfBytes (t:Str):Super:=
 ⟨((t.getD 3 0).toNat:Int),⟨numAt t 5,numAt t 13,numAt t 21,numAt t 29⟩,bit (t.getD 4 0) 0,bit (t.getD 4 0) 1,bit (t.getD 4 0) 2⟩
def decS6 (b:Str):Super×Int:=
 if (openV b).2≠0 then(zS,(openV b).2)
 else if (openV b).1.length=37∧((openV b).1.getD 4 0).toNat≤7∧supR (sOfBytes (openV b).1)=true∧sBytes (sOfBytes (openV b).1)=(openV b).1 then(sOfBytes (openV b).1,0)else(zS,2)
def fitsS (d:Disk) (s:Super):Bool:=s.blocks==(d.sure.length:Int) - 2
def loadS (d:Disk):Super×Int:=
 if (readV d 0).2≠0 then(zS,(readV d 0).2)
 else if (decS6 (readV d 0).1).2≠0 then(zS,(decS6 (readV d 0).1).2)
 else if fitsS d (decS6 (readV d 0).1).1=true then((decS6 (readV d 0).1).1,0)else(zS,2)
def commitD (d:Disk) (s:Super):Disk×Int:=
 if supR s=true∧fitsS d s=true then(if (writeV d 0 (sealV (sBytes s))).2≠0 then writeV d 0 (sealV (sBytes s))else flushV (writeV d 0 (sealV (sBytes s))).1)else(d,1)
def zSt:Store:=⟨noD,zS,0⟩
def stAttach (d:Disk):Store×Int:=
 if (loadS d).2≠0 then(zSt,(loadS d).2)else if (loadV d).2≠0 then(zSt,(loadV d).2)else if (allV d).2≠0 then(zSt,(allV d).2)
 else(⟨d,(loadS d).1,(loadV d).1⟩,0)
def stCommit (s:Store) (b:Super):Store×Int:=
 if b=s.sup then(s,0)else(⟨(commitD s.disk b).1,if (commitD s.disk b).2=0 then b else s.sup,s.mask⟩,(commitD s.disk b).2)
def stSave (s:Store) (m:Int):Store×Int:=
 if m=s.mask then(s,0)else(⟨(saveV s.disk m.toNat).1,s.sup,if (saveV s.disk m.toNat).2=0 then m else s.mask⟩,(saveV s.disk m.toNat).2)
def stNote (s:Store) (m:Int):Store×Int:=
 if m=s.mask then(s,0)else(⟨(noteV s.disk m.toNat).1,s.sup,if (noteV s.disk m.toNat).2=0 then m else s.mask⟩,(noteV s.disk m.toNat).2)
def stMark (s:Store) (i:Int):Store×Int:=if 0≤i∧i < s.sup.blocks then stSave s (setM s.mask i)else(s,4)
def stWipe (s:Store) (i:Int):Store×Int:=if 0≤i∧i < s.sup.blocks then stNote s (clrM s.mask i)else(s,4)
def stJoin (s:Store) (m:Int):Store×Int:=stSave s (orM s.mask m)
def stPut (s:Store) (i:Int) (data:Str):Store×Int:=(⟨(putV s.disk i data).1,s.sup,s.mask⟩,(putV s.disk i data).2)
def stRead (s:Store) (i:Int):Str×Int:=aReadV s.disk i
def zR:Req:=⟨false,0,0,[]⟩
def zN:Node:=⟨0,false,zSt,false,0,0,zeroH,false,zR,false,0,0,false,[],[]⟩
def bareN (n:Node) (up:Bool) (s:Store) (pri:Bool):Node:=⟨n.id,up,s,pri,0,0,zeroH,false,zR,false,0,0,false,n.draws,n.mints⟩
def downN (n:Node):Node:=bareN n false ⟨crashV n.store.disk,zS,0⟩ false
def setSt (n:Node) (s:Store):Node:={ n with store:=s }
def attachN (n:Node) (keeps:List Bool):Node×Int:=
 if n.up=true then(n,7)
 else if (stAttach (reviveV n.store.disk keeps)).2≠0 then(setSt n ⟨reviveV n.store.disk keeps,n.store.sup,n.store.mask⟩,(stAttach (reviveV n.store.disk keeps)).2)
 else(bareN n true (stAttach (reviveV n.store.disk keeps)).1 false,0)
def replyO (n:Node) (id e:Int) (data:Str):Outp:=⟨2,n.id,id,e,data⟩
def sendO (n:Node) (p:Packet):Outp:=⟨1,n.id,0,0,(encP { p with session:=n.session }).1⟩
def closeO (n:Node):Outp:=⟨3,n.id,0,0,[]⟩
def pk (kind block:Int) (data:Str):Packet:=⟨kind,0,zeroH,block,data⟩
def keepN (n:Node) (r:Store×Int):Node×Bool:=if r.2=0 then(setSt n r.1,true)else(downN (setSt n r.1),false)
def commitN (n:Node) (b:Super):Node×Bool:=keepN n (stCommit n.store b)
abbrev NO:=Node×List Outp
def refuseN (n:Node) (id e:Int):NO:=(n,[replyO n id e []])
def linkedN (n:Node):Bool:=n.state==2||n.state==3
def priS (b:Super) (p:Bool):Super:={ b with pri:=p }
def promoteN (n:Node) (id:Int):NO:=
 if n.up=false then refuseN n id 7
 else if n.primary=true then refuseN n id 8
 else if n.store.sup.inc=true then refuseN n id 9
 else if n.store.sup.dis=true then refuseN n id 10
 else if n.state=1∨n.state=4∨n.asking=true then refuseN n id 11
 else if n.peerPri=true then refuseN n id 12
 else if linkedN n=true then(let m:={ n with asking:=true,askId:=id };(m,[sendO m (pk 10 0 [])]))
 else if (commitN n (priS n.store.sup true)).2=true then
  (let m:={ (commitN n (priS n.store.sup true)).1 with primary:=true };(m,[replyO m id 0 []]))
 else((commitN n (priS n.store.sup true)).1,[])
def demoteN (n:Node) (id:Int):NO:=
 if n.up=false then refuseN n id 7
 else if n.primary=false then refuseN n id 8
 else if n.req.on=true∨n.state=1 then refuseN n id 11
 else if (commitN n (priS n.store.sup false)).2=true then
  (let m:={ (commitN n (priS n.store.sup false)).1 with primary:=false }
   (m,(if linkedN m=true then [sendO m (pk 13 0 [])] else [])++[replyO m id 0 []]))
 else((commitN n (priS n.store.sup false)).1,[])
def discardN (n:Node) (id:Int):NO:=
 if n.up=false then refuseN n id 7
 else if n.primary=true then refuseN n id 8
 else if n.state≠0 then refuseN n id 11
 else if (commitN n { n.store.sup with dis:=true }).2=true then
  ((commitN n { n.store.sup with dis:=true }).1,[replyO (commitN n { n.store.sup with dis:=true }).1 id 0 []])
 else((commitN n { n.store.sup with dis:=true }).1,[])
def readN (n:Node) (id block:Int):NO:=
 if n.up=false then refuseN n id 7 else if n.primary=false then refuseN n id 8
 else(n,[replyO n id (stRead n.store block).2 (stRead n.store block).1])
def mintN (n:Node):Node×Int:=
 match n.draws with
 | []=>(n,14)
 | g :: r=>
  if g=0 then({ n with draws:=r },14)
  else
   let m:Node:={ n with draws:=r,mints:=n.mints++[⟨g,n.store.sup.vector.current,n.id⟩] }
   let c:=commitN m { n.store.sup with vector:=mintVec n.store.sup.vector g }
   if c.2=true then({ c.1 with minted:=true },0)else(c.1,6)
def layN (n:Node) (block:Int) (data:Str):Node×Bool:=
 let m:=keepN n (stMark n.store block)
 if m.2=true then keepN m.1 (stPut m.1.store block data)else(m.1,false)
def writeN (n:Node) (id block:Int) (data:Str):NO:=
 if n.up=false then refuseN n id 7
 else if n.primary=false then refuseN n id 8
 else if block < 0∨block≥n.store.sup.blocks then refuseN n id 4
 else if data.length≠8 then refuseN n id 5
 else if n.req.on=true∨n.state=1 then refuseN n id 11
 else
  let m:Node×Int:=if n.state=0∧n.minted=false then mintN n else(n,0)
  if m.2=6 then(m.1,[])
  else if m.2≠0 then(m.1,[replyO m.1 id m.2 []])
  else
   let x:=layN m.1 block data
   if x.2=false then(x.1,[])
   else if x.1.state=0 then(x.1,[replyO x.1 id 0 []])
   else(let y:Node:={ x.1 with req:=⟨true,id,block,data⟩ };(y,[sendO y (pk 2 block data)]))
def wipeN (n:Node) (block:Int):Node×Bool:=keepN n (stWipe n.store block)
def ackedN (n:Node) (block:Int):NO:=
 if n.req.on=false∨n.req.block≠block then(n,[])
 else
  let m:=wipeN { n with req:=zR } block
  if m.2=true then(m.1,[replyO n n.req.id 0 [],sendO m.1 (pk 4 block [])])else(m.1,[replyO n n.req.id 0 []])
def applyN (n:Node) (block:Int) (data:Str):NO:=
 if (layN n block data).2=true then((layN n block data).1,[sendO (layN n block data).1 (pk 3 block [])])else((layN n block data).1,[])
def cleanedN (n:Node) (block:Int):NO:=((wipeN n block).1,[])
def loseN (n:Node):NO:=
 if n.state=0 then(n,[])
 else
  let out:List Outp:=if n.asking=true then [replyO n n.askId 13 []] else []
  let b:=bareN n n.up n.store n.primary
  if n.req.on=false then(b,out)
  else if (mintN b).2=6 then((mintN b).1,out)else((mintN b).1,out++[replyO (mintN b).1 n.req.id (mintN b).2 []])
def seekN (n:Node):NO:=
 if n.store.sup.inc=false∨n.wanted≠0 then(n,[])
 else if (nextM n.store.mask).2=true then
  (let m:Node:={ n with wanted:=(nextM n.store.mask).1+1 };(m,[sendO m (pk 5 (nextM n.store.mask).1 [])]))
 else
  let c:=commitN n ⟨n.store.sup.blocks,retire n.peer.vector,false,false,false⟩
  if c.2=true then(c.1,[sendO c.1 (pk 8 0 [])])else(c.1,[])
def giveN (n:Node) (block:Int):NO:=(n,[sendO n (pk 6 block (stRead n.store block).1)])
def gotN (n:Node) (block:Int) (data:Str):NO:=
 if n.wanted≠block+1 then(n,[])
 else
  let a:=keepN n (stPut n.store block data)
  if a.2=false then(a.1,[])
  else
   let b:=wipeN a.1 block
   if b.2=false then(b.1,[])
   else
    let m:Node:={ b.1 with wanted:=0 }
    ((seekN m).1,sendO m (pk 7 block []) :: (seekN m).2)
def copiedN (n:Node) (block:Int):NO:=
 if n.req.on=true∧n.req.block=block then(n,[])else((wipeN n block).1,[])
def endedN (n:Node):NO:=
 let c:=commitN n { n.store.sup with vector:=retire n.store.sup.vector,pri:=n.primary }
 if c.2=true then(let m:Node:={ c.1 with state:=2 };(m,[sendO m (pk 9 0 [])]))else(c.1,[])
def doneN (n:Node):Node:={ n with state:=2 }
def ownN (n:Node):Hello:=hOf n.store.sup n.primary n.store.mask
def beginN (n:Node) (session:Int):NO:=
 let m:Node:={ n with state:=1,session:=session,minted:=false }
 (m,[sendO m ⟨1,0,ownN m,0,[]⟩])
def noVer:Verdict:=⟨4,-1⟩
def ontoV (kind source:Int) (t:Hello):Verdict:=if t.pri=true∨kind=4 then noVer else ⟨kind,source⟩
def halfV (s t:Hello):Int:=
 if s.dis=true then 4 else if place s.vector t.vector.bitmap≥0 then 2 else if t.dis=true then 3
 else if place s.vector t.vector.current < 0 then 4 else if place s.vector t.vector.current≤1 then 2 else 3
def kindsV (p:Int):Int:=if p=0 then 4 else if p=1 then 2 else 3
def decideV (x y:Hello):Verdict:=
 if x.blocks≠y.blocks∨(x.pri=true∧y.pri=true)∨(x.inc=true∧y.inc=true)∨(x.dis=true∧y.dis=true)then noVer
 else if x.inc=true then ontoV (halfV y x) 1 x
 else if y.inc=true then ontoV (halfV x y) 0 y
 else if x.dis=true then ontoV 3 1 x
 else if y.dis=true then ontoV 3 0 y
 else if x.vector.current=y.vector.current then
  (if x.mask=0∧y.mask=0 then ⟨1,-1⟩
   else if y.pri=true∨(x.pri=false∧y.was=true∧x.was=false)then ontoV 2 1 x
   else ontoV 2 0 y)
 else if place x.vector y.vector.current > 0∧place y.vector x.vector.current < 0 then ontoV (kindsV (place x.vector y.vector.current)) 0 y
 else if place y.vector x.vector.current > 0∧place x.vector y.vector.current < 0 then ontoV (kindsV (place y.vector x.vector.current)) 1 x
 else noVer
def bitsV (v:Verdict) (x y:Hello):Int:=if v.kind=2 then orM x.mask y.mask else if v.kind=3 then allM x.blocks else 0
def verdictN (n:Node) (h:Hello):Verdict×Int:=
 let x:=if n.id=1 then h else ownN n
 let y:=if n.id=1 then ownN n else h
 (decideV x y,bitsV (decideV x y) x y)
def enterN (n:Node) (state:Int) (h:Hello):Node:={ n with state:=state,peerPri:=h.pri,peer:=h }
def metN (n:Node) (h:Hello):NO:=
 let v:=verdictN n h
 if v.1.kind=4 then(n,[closeO n])
 else if v.1.kind=1 then
  let c:=commitN n { n.store.sup with vector:=retire n.store.sup.vector,pri:=n.primary }
  (if c.2=true then enterN c.1 2 h else c.1,[])
 else
  let j:=keepN n (stJoin n.store v.2)
  if j.2=false then(j.1,[])
  else if v.1.source=n.id then(enterN j.1 3 h,[])
  else
   let c:=commitN j.1 { n.store.sup with inc:=true,pri:=false,vector:=fromVec n.store.sup.vector h.vector.current }
   if c.2=false then(c.1,[])else seekN (enterN c.1 4 h)
def fitsN (n:Node) (p:Packet):Bool:=
 if n.up=false∨(blk p.kind=true∧p.block≥n.store.sup.blocks)then false
 else if p.kind=1 then n.state==1
 else if p.kind=2 then !n.primary&&(n.state==2||n.state==4)
 else if p.kind=3 then n.state==2||n.state==3
 else if p.kind=4 then n.state==2||n.state==4
 else if p.kind=5∨p.kind=7∨p.kind=8 then n.state==3
 else if p.kind=6 then n.state==4
 else if p.kind=9 then n.state==4 && !n.store.sup.inc
 else if p.kind=10∨p.kind=13 then n.state==2||(n.state==3||n.state==4)
 else if p.kind=11∨p.kind=12 then n.asking&&(n.state==2||(n.state==3||n.state==4))
 else false
def rolesN (n:Node) (kind:Int):NO:=
 if kind=10 then
  (if n.primary=true∨n.asking=true then(n,[sendO n (pk 12 0 [])])
   else(let m:Node:={ n with peerPri:=true };(m,[sendO m (pk 11 0 [])])))
 else if kind=12 then
  (let m:Node:={ n with asking:=false,askId:=0 };(m,[replyO m n.askId 12 []]))
 else if kind=13 then({ n with peerPri:=false },[])
 else
  let c:=commitN n (priS n.store.sup true)
  if c.2=true then(let m:Node:={ c.1 with primary:=true,asking:=false,askId:=0 };(m,[replyO m n.askId 0 []]))else(c.1,[])
def takeN (n:Node) (p:Packet):NO:=
 if p.kind=1 then metN n p.hello
 else if p.kind=2 then applyN n p.block p.data
 else if p.kind=3 then ackedN n p.block
 else if p.kind=4 then cleanedN n p.block
 else if p.kind=5 then giveN n p.block
 else if p.kind=6 then gotN n p.block p.data
 else if p.kind=7 then copiedN n p.block
 else if p.kind=8 then endedN n
 else if p.kind=9 then(doneN n,[])
 else rolesN n p.kind
def receiveN (n:Node) (b:Str):NO:=
 if n.up=false∨n.state=0 then(n,[])
 else if (readP b n.session).2=16 then(n,[])
 else if (readP b n.session).2≠0∨fitsN n (readP b n.session).1=false then(n,[closeO n])
 else takeN n (readP b n.session).1
def zL:Link:=⟨false,0,[],[]⟩
def zC:Cluster:=⟨zN,zN,zL,false,false⟩
def nodeC (c:Cluster) (i:Bool):Node:=if i=true then c.n1 else c.n0
def setN (c:Cluster) (i:Bool) (n:Node):Cluster:=if i=true then { c with n1:=n } else { c with n0:=n }
def wantC (c:Cluster) (i:Bool):Bool:=if i=true then c.w1 else c.w0
def setW (c:Cluster) (i:Bool) (w:Bool):Cluster:=if i=true then { c with w1:=w } else { c with w0:=w }
def toC (l:Link) (i:Bool):List Str:=if i=true then l.to1 else l.to0
def setTo (l:Link) (i:Bool) (q:List Str):Link:=if i=true then { l with to1:=q } else { l with to0:=q }
def openL (l:Link):Link:=⟨true,IntKind.u64.wrap (l.session+1),[],[]⟩
def closeL (l:Link):Link:=⟨false,l.session,[],[]⟩
def newN (i:Int) (b:Int) (g:Nat):Node:=(attachN ⟨i,false,⟨(fmtV b g).1,zS,0⟩,false,0,0,zeroH,false,zR,false,0,0,false,[],[]⟩ []).1
def newC (b:Int) (g:Nat):Cluster×Int:=if (fmtV b g).2≠0 then(zC,(fmtV b g).2)else(⟨newN 0 b g,newN 1 b g,zL,false,false⟩,0)
abbrev CO:=Cluster×List Outp
def loseC (c:CO) (i:Bool):CO:=
 if (nodeC c.1 i).up=false then c
 else
  let r:=loseN (nodeC c.1 i)
  let d:=setN c.1 i r.1
  (if r.1.up=false then setW d i false else d,c.2++r.2)
def endC (c:Cluster) (out:List Outp):CO:=loseC (loseC ({ c with link:=closeL c.link },out) false) true
def putC (c:Cluster) (i:Bool) (l:List Outp):Cluster:=
 if c.link.up=true then { c with link:=setTo c.link (!i) (toC c.link (!i)++(l.filter fun o=>o.kind==1).map (·.data)) } else c
def afterC (c:Cluster) (i:Bool) (r:NO):CO:=
 let c1:=putC (setN c i r.1) i r.2
 let out:=r.2.filter fun o=>!(o.kind==1)
 let closes:=r.2.any fun o=>o.kind==3
 let c2:=if r.1.up=false then setW c1 i false else c1
 if c2.link.up=false∨(r.1.up=true∧closes=false)then(c2,out)
 else endC (if closes=true then { c2 with w0:=false,w1:=false } else c2) out
def connectC (c:Cluster) (i:Bool):CO:=
 if (nodeC c i).up=false then(c,[])
 else
  let c1:=setW c i true
  if wantC c1 (!i)=false∨(nodeC c1 (!i)).up=false∨c1.link.up=true then(c1,[])
  else
   let c2:Cluster:={ c1 with link:=openL c1.link }
   let a:=afterC c2 false (beginN c2.n0 c2.link.session)
   let b:=afterC a.1 true (beginN a.1.n1 a.1.link.session)
   (b.1,a.2++b.2)
def doAt (c:Cluster) (e:Event) (i:Bool):CO:=
 if e.kind=1 then afterC c i (promoteN (nodeC c i) e.id)
 else if e.kind=2 then afterC c i (demoteN (nodeC c i) e.id)
 else if e.kind=3 then afterC c i (discardN (nodeC c i) e.id)
 else if e.kind=4 then afterC c i (readN (nodeC c i) e.id e.block)
 else if e.kind=5 then afterC c i (writeN (nodeC c i) e.id e.block e.data)
 else if e.kind=6 then connectC c i
 else if e.kind=7∨e.kind=8 then
  (if (if e.kind=7 then setW c i false else c).link.up=true then endC (if e.kind=7 then setW c i false else c) [] else(if e.kind=7 then setW c i false else c,[]))
 else if e.kind=9 then
  (match toC c.link i with
   | []=>(c,[])
   | b :: r=>afterC { c with link:=setTo c.link i r } i (receiveN (nodeC c i) b))
 else if e.kind=10 then(if (nodeC c i).up=true then afterC c i (downN (nodeC c i),[])else(c,[]))
 else if e.kind=11 then
  (setN c i (attachN (nodeC c i) e.keeps).1,[replyO (attachN (nodeC c i) e.keeps).1 e.id (attachN (nodeC c i) e.keeps).2 []])
 else if e.kind=12 then
  afterC c i (if (nodeC c i).up=true then setSt (nodeC c i) ⟨armV (nodeC c i).store.disk (min e.num 1000),(nodeC c i).store.sup,(nodeC c i).store.mask⟩ else(nodeC c i),[])
 else if e.kind=13 then(setN c i (if (nodeC c i).draws.length < 1000 then { nodeC c i with draws:=(nodeC c i).draws++[e.num] } else(nodeC c i)),[])
 else if e.kind=14 then(if (readP e.data c.link.session).2=0 then(c,[])else afterC c i (receiveN (nodeC c i) e.data))
 else(c,[])
def doC (c:Cluster) (e:Event):CO:=if e.node=0 then doAt c e false else if e.node=1 then doAt c e true else(c,[])
def playC (c:Cluster):List Event->Cluster
 | []=>c
 | e :: l=>playC (doC c e).1 l
def reachC (b:Int) (l:List Event):Cluster:=playC (newC (1+b % 4) 7).1 l
end Gm

set_option maxRecDepth 100000
namespace Gm
open Go
theorem inK_u32 {n:Nat} (h:n < 4294967296):inK .u32 (n:Int):=⟨by show(0:Int)≤_;omega,by show _≤(4294967295:Int);omega⟩
theorem u32_toNat {m:Int} (h:inK .u32 m):m.toNat < 4294967296∧(m.toNat:Int)=m:=by
 have h:0≤m∧m≤4294967295:=h
 omega
theorem pow_lt32 {i:Nat} (h:i < 32):2 ^ i < 4294967296:=by
 have:2 ^ i < 2 ^ 32:=Nat.pow_lt_pow_right (by decide) h
 simpa using this
theorem set_u32 {m i:Int} (h:inK .u32 m):inK .u32 (setM m i):=by
 unfold setM
 split
 ·rename_i hi
  refine inK_u32 ?_
  have h1:=(u32_toNat h).1
  have h2:=pow_lt32 (i:=i.toNat) (by omega)
  exact Nat.or_lt_two_pow (n:=32) h1 h2
 ·exact h
theorem clr_u32 {m i:Int} (h:inK .u32 m):inK .u32 (clrM m i):=by
 unfold clrM
 split
 ·rename_i hi
  unfold hasM at hi
  rw [Bool.and_eq_true] at hi
  have h1:=Nat.ge_two_pow_of_testBit hi.2
  have h2:=u32_toNat h
  have h:0≤m∧m≤4294967295:=h
  generalize 2 ^ i.toNat=p at h1 ⊢
  exact⟨by show(0:Int)≤_;omega,by show _≤(4294967295:Int);omega⟩
 ·exact h
theorem or_u32 {a b:Int} (ha:inK .u32 a) (hb:inK .u32 b):inK .u32 (orM a b):=by
 unfold orM
 exact inK_u32 (Nat.or_lt_two_pow (n:=32) (u32_toNat ha).1 (u32_toNat hb).1)
theorem all_u32 (b:Int):inK .u32 (allM b):=by
 unfold allM
 split
 ·rename_i h
  refine inK_u32 ?_
  have:2 ^ b.toNat≤2 ^ 32:=Nat.pow_le_pow_right (by decide) (by omega)
  have:2 ^ b.toNat≤4294967296:=by simpa using this
  omega
 ·exact inK_u32 (by decide)
structure OkS (N:Nat) (s:Store):Prop where
 d:OkD N s.disk
 b:inK .i64 s.sup.blocks
 v:wVec s.sup.vector
 m:inK .u32 s.mask
theorem OkD.up {N M:Nat} {d:Disk} (o:OkD N d) (h:N≤M):OkD M d:=
 ⟨Nat.le_trans o.s h,Nat.le_trans o.c h,o.r,o.f,o.p,fun s hs=>Nat.le_trans (o.ds s hs) h,fun w hw=>Nat.le_trans (o.dc w hw) h⟩
theorem OkS.up {N M:Nat} {s:Store} (o:OkS N s) (h:N≤M):OkS M s:=⟨o.d.up h,o.b,o.v,o.m⟩
def wSup (b:Super):Prop:=inK .i64 b.blocks∧wVec b.vector
theorem commit_okD {N:Nat} {d:Disk} {s:Super} (o:OkD N d) (h64:64≤N):OkD (N+1) (commitD d s).1:=by
 unfold commitD
 split
 ·split
  ·exact write_ok o h64
  ·exact flush_okD (write_ok o h64)
 ·exact more_okD o
theorem save_okD {N:Nat} {d:Disk} {m:Nat} (o:OkD N d) (h64:64≤N):OkD (N+1) (saveV d m).1:=by
 unfold saveV
 split
 ·exact note_ok o h64
 ·exact flush_okD (note_ok o h64)
theorem okS_commit {N:Nat} {s:Store} {b:Super} (o:OkS N s) (h64:64≤N) (hb:wSup b):OkS (N+1) (stCommit s b).1:=by
 unfold stCommit
 split
 ·exact o.up (by omega)
 ·refine⟨commit_okD o.d h64,?_,?_,o.m⟩
  ·dsimp only;split
   ·exact hb.1
   ·exact o.b
  ·dsimp only;split
   ·exact hb.2
   ·exact o.v
theorem okS_save {N:Nat} {s:Store} {m:Int} (o:OkS N s) (h64:64≤N) (hm:inK .u32 m):OkS (N+1) (stSave s m).1:=by
 unfold stSave
 split
 ·exact o.up (by omega)
 ·refine⟨save_okD o.d h64,o.b,o.v,?_⟩
  dsimp only;split
  ·exact hm
  ·exact o.m
theorem okS_note {N:Nat} {s:Store} {m:Int} (o:OkS N s) (h64:64≤N) (hm:inK .u32 m):OkS (N+1) (stNote s m).1:=by
 unfold stNote
 split
 ·exact o.up (by omega)
 ·refine⟨note_ok o.d h64,o.b,o.v,?_⟩
  dsimp only;split
  ·exact hm
  ·exact o.m
theorem okS_mark {N:Nat} {s:Store} {i:Int} (o:OkS N s) (h64:64≤N):OkS (N+1) (stMark s i).1:=by
 unfold stMark
 split
 ·exact okS_save o h64 (set_u32 o.m)
 ·exact o.up (by omega)
theorem okS_wipe {N:Nat} {s:Store} {i:Int} (o:OkS N s) (h64:64≤N):OkS (N+1) (stWipe s i).1:=by
 unfold stWipe
 split
 ·exact okS_note o h64 (clr_u32 o.m)
 ·exact o.up (by omega)
theorem okS_join {N:Nat} {s:Store} {m:Int} (o:OkS N s) (h64:64≤N) (hm:inK .u32 m):OkS (N+1) (stJoin s m).1:=
 okS_save o h64 (or_u32 o.m hm)
theorem okS_put {N:Nat} {s:Store} {i:Int} {data:Str} (o:OkS N s) (h64:64≤N):OkS (N+1) (stPut s i data).1:=
 ⟨put_okD o.d h64,o.b,o.v,o.m⟩
structure OkN (N:Nat) (n:Node):Prop where
 st:OkS N n.store
 se:inK .u64 n.session
 pe:wHello n.peer
 rq:n.req.data.length≤8
 dl:n.draws.length≤N
 dg:∀ g∈n.draws,inK .u64 g
 ml:n.mints.length≤N
 wa:inK .i64 n.wanted
theorem OkN.up {N M:Nat} {n:Node} (o:OkN N n) (h:N≤M):OkN M n:=
 ⟨o.st.up h,o.se,o.pe,o.rq,Nat.le_trans o.dl h,o.dg,Nat.le_trans o.ml h,o.wa⟩
theorem u64_0:inK .u64 0:=⟨by decide,by decide⟩
theorem i64_0:inK .i64 0:=⟨by decide,by decide⟩
theorem wZV:wVec zV:=⟨u64_0,u64_0,u64_0,u64_0⟩
theorem wZH:wHello zeroH:=⟨i64_0,wZV,⟨by decide,by decide⟩⟩
theorem okS_crash {N:Nat} {s:Store} (o:OkS N s):OkS N ⟨crashV s.disk,zS,0⟩:=⟨crash_ok o.d,i64_0,wZV,inK_u32 (by decide)⟩
theorem okN_bare {N:Nat} {n:Node} (o:OkN N n) {up pri:Bool} {s:Store} (hs:OkS N s):OkN N (bareN n up s pri):=
 ⟨hs,u64_0,wZH,by show(0:Nat)≤8;omega,o.dl,o.dg,o.ml,i64_0⟩
theorem okN_down {N:Nat} {n:Node} (o:OkN N n):OkN N (downN n):=okN_bare o (okS_crash o.st)
theorem okN_set {N M:Nat} {n:Node} {s:Store} (o:OkN N n) (h:N≤M) (hs:OkS M s):OkN M (setSt n s):=
 ⟨hs,o.se,o.pe,o.rq,Nat.le_trans o.dl h,o.dg,Nat.le_trans o.ml h,o.wa⟩
theorem okN_keep {N:Nat} {n:Node} {r:Store×Int} (o:OkN N n) (hs:OkS (N+1) r.1):OkN (N+1) (keepN n r).1:=by
 unfold keepN
 split
 ·exact okN_set o (by omega) hs
 ·exact okN_down (okN_set o (by omega) hs)
theorem okN_commit {N:Nat} {n:Node} {b:Super} (o:OkN N n) (h64:64≤N) (hb:wSup b):OkN (N+1) (commitN n b).1:=okN_keep o (okS_commit o.st h64 hb)
theorem OkN.sup {N:Nat} {n:Node} (o:OkN N n):wSup n.store.sup:=⟨o.st.b,o.st.v⟩
theorem mint_vec {v:Vec} {g:Int} (h:wVec v) (hg:inK .u64 g):wVec (mintVec v g):=by
 unfold mintVec
 split
 ·exact⟨hg,h.1,h.2.2.1,h.2.2.2⟩
 ·exact⟨hg,h.2.1,h.1,h.2.2.1⟩
theorem retire_vec {v:Vec} (h:wVec v):wVec (retire v):=by
 unfold retire
 split
 ·exact h
 ·exact⟨h.1,u64_0,h.2.1,h.2.2.1⟩
theorem from_vec {v:Vec} {g:Int} (h:wVec v) (hg:inK .u64 g):wVec (fromVec v g):=⟨h.1,hg,h.2.2.1,h.2.2.2⟩
theorem okN_mint {N:Nat} {n:Node} (o:OkN N n) (h64:64≤N):OkN (N+2) (mintN n).1:=by
 unfold mintN
 split
 ·exact o.up (by omega)
 ·rename_i g r hd
  have hg:inK .u64 g:=o.dg g (by rw [hd];simp)
  have hr:∀ x∈r,inK .u64 x:=fun x hx=>o.dg x (by rw [hd];exact List.mem_cons_of_mem _ hx)
  have hl:r.length≤N:=by
   have:=o.dl
   rw [hd] at this
   simp at this;omega
  split
  ·exact⟨o.st.up (by omega),o.se,o.pe,o.rq,by show r.length≤N+2;omega,hr,Nat.le_trans o.ml (by omega),o.wa⟩
  ·have om:OkN (N+1) { n with draws:=r,mints:=n.mints++[⟨g,n.store.sup.vector.current,n.id⟩] }:=
    ⟨o.st.up (by omega),o.se,o.pe,o.rq,by show r.length≤N+1;omega,hr,by
      show(n.mints++[_]).length≤N+1
      have:=o.ml
      simp;omega,o.wa⟩
   have oc:=okN_commit (b:={ n.store.sup with vector:=mintVec n.store.sup.vector g }) om (by omega) ⟨o.st.b,mint_vec o.st.v hg⟩
   dsimp only
   split
   ·exact⟨oc.st,oc.se,oc.pe,oc.rq,oc.dl,oc.dg,oc.ml,oc.wa⟩
   ·exact oc
theorem okN_lay {N:Nat} {n:Node} {b:Int} {data:Str} (o:OkN N n) (h64:64≤N):OkN (N+2) (layN n b data).1:=by
 unfold layN
 have om:=okN_keep o (okS_mark (i:=b) o.st h64)
 dsimp only
 split
 ·exact okN_keep om (okS_put om.st (by omega))
 ·exact om.up (by omega)
theorem okN_wipe {N:Nat} {n:Node} {b:Int} (o:OkN N n) (h64:64≤N):OkN (N+1) (wipeN n b).1:=okN_keep o (okS_wipe o.st h64)
theorem okN_promote {N:Nat} {n:Node} {id:Int} (o:OkN N n) (h64:64≤N):OkN (N+4) (promoteN n id).1:=by
 have oc:=okN_commit (b:=priS n.store.sup true) o h64 o.sup
 unfold promoteN
 repeat' split
 all_goals first
  | exact o.up (by omega)
  | exact oc.up (by omega)
  | exact OkN.up (N:=N) ⟨o.st,o.se,o.pe,o.rq,o.dl,o.dg,o.ml,o.wa⟩ (by omega)
  | exact OkN.up (N:=N+1) ⟨oc.st,oc.se,oc.pe,oc.rq,oc.dl,oc.dg,oc.ml,oc.wa⟩ (by omega)
theorem okN_demote {N:Nat} {n:Node} {id:Int} (o:OkN N n) (h64:64≤N):OkN (N+4) (demoteN n id).1:=by
 have oc:=okN_commit (b:=priS n.store.sup false) o h64 o.sup
 unfold demoteN
 repeat' split
 all_goals first
  | exact o.up (by omega)
  | exact oc.up (by omega)
  | exact OkN.up (N:=N+1) ⟨oc.st,oc.se,oc.pe,oc.rq,oc.dl,oc.dg,oc.ml,oc.wa⟩ (by omega)
theorem okN_discard {N:Nat} {n:Node} {id:Int} (o:OkN N n) (h64:64≤N):OkN (N+4) (discardN n id).1:=by
 have oc:=okN_commit (b:={ n.store.sup with dis:=true }) o h64 o.sup
 unfold discardN
 repeat' split
 all_goals first
  | exact o.up (by omega)
  | exact oc.up (by omega)
theorem okN_read {N:Nat} {n:Node} {id b:Int} (o:OkN N n):OkN (N+4) (readN n id b).1:=by
 unfold readN
 repeat' split
 all_goals exact o.up (by omega)
theorem okN_write {N:Nat} {n:Node} {id b:Int} {data:Str} (o:OkN N n) (h64:64≤N):OkN (N+4) (writeN n id b data).1:=by
 unfold writeN
 split
 ·exact o.up (by omega)
 split
 ·exact o.up (by omega)
 split
 ·exact o.up (by omega)
 split
 ·exact o.up (by omega)
 split
 ·exact o.up (by omega)
 rename_i h8 _
 have h8:data.length=8:=Classical.not_not.1 h8
 have om:OkN (N+2) (if n.state=0∧n.minted=false then mintN n else(n,0)).1:=by
  split
  ·exact okN_mint o h64
  ·exact o.up (by omega)
 dsimp only
 generalize (if n.state=0∧n.minted=false then mintN n else(n,0))=m at om ⊢
 split
 ·exact om.up (by omega)
 split
 ·exact om.up (by omega)
 have ox:=okN_lay (b:=b) (data:=data) om (by omega)
 split
 ·exact ox
 split
 ·exact ox
 ·exact⟨ox.st,ox.se,ox.pe,by show data.length≤8;omega,ox.dl,ox.dg,ox.ml,ox.wa⟩
theorem okN_acked {N:Nat} {n:Node} {b:Int} (o:OkN N n) (h64:64≤N):OkN (N+4) (ackedN n b).1:=by
 unfold ackedN
 split
 ·exact o.up (by omega)
 have o2:OkN N { n with req:=zR }:=⟨o.st,o.se,o.pe,by show(0:Nat)≤8;omega,o.dl,o.dg,o.ml,o.wa⟩
 have ow:=okN_wipe (b:=b) o2 h64
 dsimp only
 split
 ·exact ow.up (by omega)
 ·exact ow.up (by omega)
theorem okN_apply {N:Nat} {n:Node} {b:Int} {data:Str} (o:OkN N n) (h64:64≤N):OkN (N+4) (applyN n b data).1:=by
 have ol:=okN_lay (b:=b) (data:=data) o h64
 unfold applyN
 split
 ·exact ol.up (by omega)
 ·exact ol.up (by omega)
theorem okN_cleaned {N:Nat} {n:Node} {b:Int} (o:OkN N n) (h64:64≤N):OkN (N+4) (cleanedN n b).1:=(okN_wipe o h64).up (by omega)
theorem okN_lose {N:Nat} {n:Node} (o:OkN N n) (h64:64≤N):OkN (N+4) (loseN n).1:=by
 unfold loseN
 split
 ·exact o.up (by omega)
 have ob:OkN N (bareN n n.up n.store n.primary):=okN_bare o o.st
 have om:=okN_mint ob h64
 dsimp only
 split
 ·exact ob.up (by omega)
 split
 ·exact om.up (by omega)
 ·exact om.up (by omega)
theorem next_bound (m:Int):0≤(nextM m).1∧(nextM m).1 < 32:=by
 unfold nextM
 split
 ·rename_i i r h
  have:i∈bitsM m:=by rw [h];simp
  unfold bitsM at this
  have:=List.mem_range.1 (List.mem_filter.1 this).1
  dsimp only;omega
 ·decide
theorem i64_of {x:Int} (h:-9223372036854775808≤x∧x≤9223372036854775807):inK .i64 x:=h
theorem okN_seek {N:Nat} {n:Node} (o:OkN N n) (h64:64≤N):OkN (N+1) (seekN n).1:=by
 have oc:=okN_commit (b:=⟨n.store.sup.blocks,retire n.peer.vector,false,false,false⟩) o h64 ⟨o.st.b,retire_vec o.pe.2.1⟩
 have hn:=next_bound n.store.mask
 unfold seekN
 dsimp only
 split
 ·exact o.up (by omega)
 split
 ·exact OkN.up (N:=N) ⟨o.st,o.se,o.pe,o.rq,o.dl,o.dg,o.ml,i64_of (x:=(nextM n.store.mask).1+1) (by omega)⟩ (by omega)
 split
 ·exact oc
 ·exact oc
theorem okN_give {N:Nat} {n:Node} {b:Int} (o:OkN N n):OkN (N+4) (giveN n b).1:=o.up (by omega)
theorem okN_wanted0 {N:Nat} {n:Node} (o:OkN N n):OkN N { n with wanted:=0 }:=⟨o.st,o.se,o.pe,o.rq,o.dl,o.dg,o.ml,i64_0⟩
theorem okN_got {N:Nat} {n:Node} {b:Int} {data:Str} (o:OkN N n) (h64:64≤N):OkN (N+4) (gotN n b data).1:=by
 unfold gotN
 split
 ·exact o.up (by omega)
 have oa:=okN_keep o (okS_put (i:=b) (data:=data) o.st h64)
 dsimp only
 split
 ·exact oa.up (by omega)
 have ob:=okN_wipe (b:=b) oa (by omega)
 split
 ·exact ob.up (by omega)
 ·exact(okN_seek (okN_wanted0 ob) (by omega)).up (by omega)
theorem okN_copied {N:Nat} {n:Node} {b:Int} (o:OkN N n) (h64:64≤N):OkN (N+4) (copiedN n b).1:=by
 unfold copiedN
 split
 ·exact o.up (by omega)
 ·exact(okN_wipe o h64).up (by omega)
theorem okN_ended {N:Nat} {n:Node} (o:OkN N n) (h64:64≤N):OkN (N+4) (endedN n).1:=by
 have oc:=okN_commit (b:={ n.store.sup with vector:=retire n.store.sup.vector,pri:=n.primary }) o h64 ⟨o.st.b,retire_vec o.st.v⟩
 unfold endedN
 dsimp only
 split
 ·exact OkN.up (N:=N+1) ⟨oc.st,oc.se,oc.pe,oc.rq,oc.dl,oc.dg,oc.ml,oc.wa⟩ (by omega)
 ·exact oc.up (by omega)
theorem okN_done {N:Nat} {n:Node} (o:OkN N n):OkN (N+4) (doneN n):=OkN.up (N:=N) ⟨o.st,o.se,o.pe,o.rq,o.dl,o.dg,o.ml,o.wa⟩ (by omega)
theorem okN_begin {N:Nat} {n:Node} {s:Int} (o:OkN N n) (hs:inK .u64 s):OkN N (beginN n s).1:=⟨o.st,hs,o.pe,o.rq,o.dl,o.dg,o.ml,o.wa⟩
theorem okN_enter {N:Nat} {n:Node} {s:Int} {h:Hello} (o:OkN N n) (hh:wHello h):OkN N (enterN n s h):=⟨o.st,o.se,hh,o.rq,o.dl,o.dg,o.ml,o.wa⟩
theorem own_w {N:Nat} {n:Node} (o:OkN N n):wHello (ownN n):=⟨o.st.b,o.st.v,o.st.m⟩
theorem bits_u32 {v:Verdict} {x y:Hello} (hx:wHello x) (hy:wHello y):inK .u32 (bitsV v x y):=by
 unfold bitsV
 split
 ·exact or_u32 hx.2.2 hy.2.2
 split
 ·exact all_u32 _
 ·exact inK_u32 (by decide)
theorem verdict_u32 {N:Nat} {n:Node} {h:Hello} (o:OkN N n) (hh:wHello h):inK .u32 (verdictN n h).2:=by
 unfold verdictN
 dsimp only
 split
 ·exact bits_u32 hh (own_w o)
 ·exact bits_u32 (own_w o) hh
theorem okN_met {N:Nat} {n:Node} {h:Hello} (o:OkN N n) (h64:64≤N) (hh:wHello h):OkN (N+4) (metN n h).1:=by
 unfold metN
 dsimp only
 split
 ·exact o.up (by omega)
 split
 ·have oc:=okN_commit (b:={ n.store.sup with vector:=retire n.store.sup.vector,pri:=n.primary }) o h64 ⟨o.st.b,retire_vec o.st.v⟩
  split
  ·exact(okN_enter oc hh).up (by omega)
  ·exact oc.up (by omega)
 have oj:=okN_keep o (okS_join o.st h64 (verdict_u32 o hh))
 split
 ·exact oj.up (by omega)
 split
 ·exact(okN_enter oj hh).up (by omega)
 have oc:=okN_commit (b:={ n.store.sup with inc:=true,pri:=false,vector:=fromVec n.store.sup.vector h.vector.current }) oj (by omega) ⟨o.st.b,from_vec o.st.v hh.2.1.1⟩
 split
 ·exact oc.up (by omega)
 ·exact(okN_seek (okN_enter oc hh) (by omega)).up (by omega)
theorem okN_roles {N:Nat} {n:Node} {k:Int} (o:OkN N n) (h64:64≤N):OkN (N+4) (rolesN n k).1:=by
 have oc:=okN_commit (b:=priS n.store.sup true) o h64 o.sup
 unfold rolesN
 dsimp only
 repeat' split
 all_goals first
  | exact o.up (by omega)
  | exact oc.up (by omega)
  | exact OkN.up (N:=N) ⟨o.st,o.se,o.pe,o.rq,o.dl,o.dg,o.ml,o.wa⟩ (by omega)
  | exact OkN.up (N:=N+1) ⟨oc.st,oc.se,oc.pe,oc.rq,oc.dl,oc.dg,oc.ml,oc.wa⟩ (by omega)
theorem okN_take {N:Nat} {n:Node} {p:Packet} (o:OkN N n) (h64:64≤N) (hp:wHello p.hello):OkN (N+4) (takeN n p).1:=by
 unfold takeN
 split
 ·exact okN_met o h64 hp
 split
 ·exact okN_apply o h64
 split
 ·exact okN_acked o h64
 split
 ·exact okN_cleaned o h64
 split
 ·exact okN_give o
 split
 ·exact okN_got o h64
 split
 ·exact okN_copied o h64
 split
 ·exact okN_ended o h64
 split
 ·exact okN_done o
 ·exact okN_roles o h64
theorem read_w (b:Str) (s:Int):wHello (readP b s).1.hello:=by
 unfold readP
 rcases decP_cases b with ⟨p,h1,_,h3,_,_⟩ | ⟨e,h1,h2⟩
 ·rw [h1]
  split
  ·split
   ·exact h3
   ·exact wZH
  ·exact h3
 ·rw [h2]
  split
  ·split
   ·exact wZH
   ·exact wZH
  ·exact wZH
theorem okN_receive {N:Nat} {n:Node} {b:Str} (o:OkN N n) (h64:64≤N):OkN (N+4) (receiveN n b).1:=by
 unfold receiveN
 split
 ·exact o.up (by omega)
 split
 ·exact o.up (by omega)
 split
 ·exact o.up (by omega)
 ·exact okN_take o h64 (read_w _ _)
end Gm

set_option maxRecDepth 100000
namespace Gm
open Go
theorem u0:inK .u64 0:=⟨by decide,by decide⟩
theorem encP_t {p:Packet} (h:pRight p=true):encP p=(sealV (pBytes p),0):=by unfold encP;rw [if_pos h]
theorem encP_f {p:Packet} (h:pRight p=false):encP p=([],1):=by unfold encP;rw [if_neg (by rw [h];simp)]
theorem encP_len {p:Packet}:(encP p).1.length≤200:=by
 cases h:pRight p with
 | true=>
  rw [encP_t h]
  have:=pBytes_len h
  show(sealV (pBytes p)).length≤200
  rw [sealV_length];omega
 | false=>rw [encP_f h];decide
end Gm

set_option maxRecDepth 100000
namespace Gm
open Go
def Good (o:Outp):Prop:=o.kind=1->o.data.length≤200
def OkO (k:Nat) (l:List Outp):Prop:=l.length≤k∧∀ o∈l,Good o
theorem good_send (n:Node) (p:Packet):Good (sendO n p):=fun _=>encP_len
theorem good_reply (n:Node) (id e:Int) (d:Str):Good (replyO n id e d):=fun h=>absurd (show(2:Int)=1 from h) (by decide)
theorem good_close (n:Node):Good (closeO n):=fun h=>absurd (show(3:Int)=1 from h) (by decide)
theorem okO_nil (k:Nat):OkO k []:=⟨Nat.zero_le _,fun o h=>by cases h⟩
theorem okO_cons {k:Nat} {o:Outp} {l:List Outp} (h:Good o) (hl:OkO k l):OkO (k+1) (o :: l):=
 ⟨Nat.succ_le_succ hl.1,fun x hx=>by
   rcases List.mem_cons.1 hx with rfl | hx
   ·exact h
   ·exact hl.2 x hx⟩
theorem OkO.up {k m:Nat} {l:List Outp} (h:OkO k l) (hm:k≤m):OkO m l:=⟨Nat.le_trans h.1 hm,h.2⟩
theorem okO_app {a b:Nat} {l m:List Outp} (h:OkO a l) (hm:OkO b m):OkO (a+b) (l++m):=
 ⟨by rw [List.length_append];exact Nat.add_le_add h.1 hm.1,fun o ho=>by
   rcases List.mem_append.1 ho with ho | ho
   ·exact h.2 o ho
   ·exact hm.2 o ho⟩
theorem okO_promote (n:Node) (id:Int):OkO 3 (promoteN n id).2:=by
 unfold promoteN refuseN
 repeat' split
 all_goals first
  | exact okO_nil _
  | exact okO_cons (good_reply _ _ _ _) (okO_nil 2)
  | exact okO_cons (good_send _ _) (okO_nil 2)
theorem okO_demote (n:Node) (id:Int):OkO 3 (demoteN n id).2:=by
 unfold demoteN refuseN
 split
 ·exact okO_cons (good_reply _ _ _ _) (okO_nil 2)
 split
 ·exact okO_cons (good_reply _ _ _ _) (okO_nil 2)
 split
 ·exact okO_cons (good_reply _ _ _ _) (okO_nil 2)
 split
 ·dsimp only
  refine okO_app (a:=1) (b:=2) ?_ (okO_cons (good_reply _ _ _ _) (okO_nil 1))
  split
  ·exact okO_cons (good_send _ _) (okO_nil 0)
  ·exact okO_nil 1
 ·exact okO_nil _
theorem okO_discard (n:Node) (id:Int):OkO 3 (discardN n id).2:=by
 unfold discardN refuseN
 repeat' split
 all_goals first
  | exact okO_nil _
  | exact okO_cons (good_reply _ _ _ _) (okO_nil 2)
theorem okO_read (n:Node) (id b:Int):OkO 3 (readN n id b).2:=by
 unfold readN refuseN
 repeat' split
 all_goals exact okO_cons (good_reply _ _ _ _) (okO_nil 2)
theorem okO_write (n:Node) (id b:Int) (data:Str):OkO 3 (writeN n id b data).2:=by
 unfold writeN refuseN
 dsimp only
 repeat' split
 all_goals first
  | exact okO_nil _
  | exact okO_cons (good_reply _ _ _ _) (okO_nil 2)
  | exact okO_cons (good_send _ _) (okO_nil 2)
theorem okO_acked (n:Node) (b:Int):OkO 3 (ackedN n b).2:=by
 unfold ackedN
 dsimp only
 repeat' split
 all_goals first
  | exact okO_nil _
  | exact okO_cons (good_reply _ _ _ _) (okO_cons (good_send _ _) (okO_nil 1))
  | exact okO_cons (good_reply _ _ _ _) (okO_nil 2)
theorem okO_apply (n:Node) (b:Int) (data:Str):OkO 3 (applyN n b data).2:=by
 unfold applyN
 repeat' split
 all_goals first
  | exact okO_nil _
  | exact okO_cons (good_send _ _) (okO_nil 2)
theorem okO_lose (n:Node):OkO 3 (loseN n).2:=by
 have h1:OkO 1 (if n.asking=true then [replyO n n.askId 13 []] else []):=by
  split
  ·exact okO_cons (good_reply _ _ _ _) (okO_nil 0)
  ·exact okO_nil _
 unfold loseN
 dsimp only
 split
 ·exact okO_nil _
 split
 ·exact h1.up (by omega)
 split
 ·exact h1.up (by omega)
 ·exact okO_app h1 (okO_cons (good_reply _ _ _ _) (okO_nil 1))
theorem okO_seek (n:Node):OkO 1 (seekN n).2:=by
 unfold seekN
 dsimp only
 repeat' split
 all_goals first
  | exact okO_nil _
  | exact okO_cons (good_send _ _) (okO_nil 0)
theorem okO_got (n:Node) (b:Int) (data:Str):OkO 3 (gotN n b data).2:=by
 unfold gotN
 dsimp only
 repeat' split
 all_goals first
  | exact okO_nil _
  | exact okO_cons (good_send _ _) ((okO_seek _).up (by omega))
theorem okO_copied (n:Node) (b:Int):OkO 3 (copiedN n b).2:=by
 unfold copiedN
 repeat' split
 all_goals exact okO_nil _
theorem okO_ended (n:Node):OkO 3 (endedN n).2:=by
 unfold endedN
 dsimp only
 repeat' split
 all_goals first
  | exact okO_nil _
  | exact okO_cons (good_send _ _) (okO_nil 2)
theorem okO_met (n:Node) (h:Hello):OkO 3 (metN n h).2:=by
 unfold metN
 dsimp only
 split
 ·exact okO_cons (good_close _) (okO_nil 2)
 split
 ·exact okO_nil _
 split
 ·exact okO_nil _
 split
 ·exact okO_nil _
 split
 ·exact okO_nil _
 ·exact(okO_seek _).up (by omega)
theorem okO_roles (n:Node) (k:Int):OkO 3 (rolesN n k).2:=by
 unfold rolesN
 dsimp only
 repeat' split
 all_goals first
  | exact okO_nil _
  | exact okO_cons (good_send _ _) (okO_nil 2)
  | exact okO_cons (good_reply _ _ _ _) (okO_nil 2)
theorem okO_take (n:Node) (p:Packet):OkO 3 (takeN n p).2:=by
 unfold takeN
 split
 ·exact okO_met _ _
 split
 ·exact okO_apply _ _ _
 split
 ·exact okO_acked _ _
 split
 ·exact okO_nil _
 split
 ·exact okO_cons (good_send _ _) (okO_nil 2)
 split
 ·exact okO_got _ _ _
 split
 ·exact okO_copied _ _
 split
 ·exact okO_ended _
 split
 ·exact okO_nil _
 ·exact okO_roles _ _
theorem okO_receive (n:Node) (b:Str):OkO 3 (receiveN n b).2:=by
 unfold receiveN
 split
 ·exact okO_nil _
 split
 ·exact okO_nil _
 split
 ·exact okO_cons (good_close _) (okO_nil 2)
 ·exact okO_take _ _
structure OkL (N:Nat) (l:Link):Prop where
 s:inK .u64 l.session
 a:l.to0.length≤N
 b:l.to1.length≤N
 p:∀ x∈l.to0,x.length≤200
 q:∀ x∈l.to1,x.length≤200
structure OkC (N:Nat) (c:Cluster):Prop where
 a:OkN N c.n0
 b:OkN N c.n1
 l:OkL N c.link
theorem OkL.up {N M:Nat} {l:Link} (o:OkL N l) (h:N≤M):OkL M l:=⟨o.s,Nat.le_trans o.a h,Nat.le_trans o.b h,o.p,o.q⟩
theorem OkC.up {N M:Nat} {c:Cluster} (o:OkC N c) (h:N≤M):OkC M c:=⟨o.a.up h,o.b.up h,o.l.up h⟩
theorem OkC.node {N:Nat} {c:Cluster} (o:OkC N c) (i:Bool):OkN N (nodeC c i):=by cases i;exact o.a;exact o.b
theorem okC_set {N M:Nat} {c:Cluster} {n:Node} (o:OkC N c) (h:N≤M) (hn:OkN M n) (i:Bool):OkC M (setN c i n):=by
 cases i
 ·exact⟨hn,o.b.up h,o.l.up h⟩
 ·exact⟨o.a.up h,hn,o.l.up h⟩
theorem okC_want {N:Nat} {c:Cluster} (o:OkC N c) (i w:Bool):OkC N (setW c i w):=by
 cases i
 ·exact⟨o.a,o.b,o.l⟩
 ·exact⟨o.a,o.b,o.l⟩
theorem okC_lose {N:Nat} {c:CO} (o:OkC N c.1) (h64:64≤N) (i:Bool):OkC (N+4) (loseC c i).1:=by
 unfold loseC
 split
 ·exact o.up (by omega)
 dsimp only
 have o1:=okC_set o (by omega:N≤N+4) (okN_lose (o.node i) h64) i
 split
 ·exact okC_want o1 _ _
 ·exact o1
theorem okC_end {N:Nat} {c:Cluster} {out:List Outp} (o:OkC N c) (h64:64≤N):OkC (N+8) (endC c out).1:=by
 have o1:OkC N { c with link:=closeL c.link }:=⟨o.a,o.b,⟨o.l.s,Nat.zero_le _,Nat.zero_le _,fun x h=>(by cases h),fun x h=>(by cases h)⟩⟩
 exact okC_lose (c:=loseC ({ c with link:=closeL c.link },out) false) (okC_lose (c:=({ c with link:=closeL c.link },out)) o1 h64 false) (by omega) true
theorem okL_to {N:Nat} {l:Link} (o:OkL N l) (i:Bool) {q:List Str} (h1:q.length≤N) (h2:∀ x∈q,x.length≤200):OkL N (setTo l i q):=by
 cases i
 ·exact⟨o.s,h1,o.b,h2,o.q⟩
 ·exact⟨o.s,o.a,h1,o.p,h2⟩
theorem OkL.to {N:Nat} {l:Link} (o:OkL N l) (i:Bool):(toC l i).length≤N∧∀ x∈toC l i,x.length≤200:=by
 cases i
 ·exact⟨o.a,o.p⟩
 ·exact⟨o.b,o.q⟩
theorem okC_put {N:Nat} {c:Cluster} {l:List Outp} (o:OkC N c) (i:Bool) (hl:OkO 3 l):OkC (N+3) (putC c i l):=by
 unfold putC
 split
 ·refine⟨o.a.up (by omega),o.b.up (by omega),okL_to (o.l.up (by omega)) _ ?_ ?_⟩
  ·have h1:=(o.l.to (!i)).1
   have h2:=List.length_filter_le (fun o:Outp=>o.kind==1) l
   have h3:=hl.1
   rw [List.length_append,List.length_map]
   omega
  ·intro x hx
   rcases List.mem_append.1 hx with hx | hx
   ·exact(o.l.to (!i)).2 x hx
   ·obtain ⟨p,hp,rfl⟩:=List.mem_map.1 hx
    obtain ⟨h1,h2⟩:=List.mem_filter.1 hp
    exact hl.2 p h1 (by simpa using h2)
 ·exact o.up (by omega)
theorem okC_after {N:Nat} {c:Cluster} {r:NO} (o:OkC N c) (h64:64≤N) (i:Bool) (hn:OkN (N+4) r.1) (hl:OkO 3 r.2):OkC (N+15) (afterC c i r).1:=by
 have o1:=okC_put (okC_set o (by omega:N≤N+4) hn i) i hl
 unfold afterC
 dsimp only
 have o2:OkC (N+7) (if r.1.up=false then setW (putC (setN c i r.1) i r.2) i false else putC (setN c i r.1) i r.2):=by
  split
  ·exact okC_want o1 _ _
  ·exact o1
 generalize (if r.1.up=false then setW (putC (setN c i r.1) i r.2) i false else putC (setN c i r.1) i r.2)=c2 at o2 ⊢
 split
 ·exact o2.up (by omega)
 ·refine okC_end (N:=N+7) ?_ (by omega)
  split
  ·exact⟨o2.a,o2.b,o2.l⟩
  ·exact o2
theorem okC_open {N:Nat} {c:Cluster} (o:OkC N c):OkC N { c with link:=openL c.link }:=
 ⟨o.a,o.b,⟨⟨by show(0:Int)≤IntKind.u64.wrap _;rw [wrap_u64];omega,by show IntKind.u64.wrap _≤(18446744073709551615:Int);rw [wrap_u64];omega⟩,Nat.zero_le _,Nat.zero_le _,fun x h=>(by cases h),fun x h=>(by cases h)⟩⟩
theorem okO_begin (n:Node) (s:Int):OkO 3 (beginN n s).2:=okO_cons (good_send _ _) (okO_nil 2)
theorem okC_connect {N:Nat} {c:Cluster} (o:OkC N c) (h64:64≤N) (i:Bool):OkC (N+30) (connectC c i).1:=by
 unfold connectC
 split
 ·exact o.up (by omega)
 dsimp only
 split
 ·exact(okC_want o _ _).up (by omega)
 have o2:=okC_open (okC_want o i true)
 have oa:=okC_after (r:=beginN (setW c i true).n0 (openL (setW c i true).link).session) o2 h64 false ((okN_begin o2.a o2.l.s).up (by omega)) (okO_begin _ _)
 exact okC_after oa (by omega) true ((okN_begin oa.b oa.l.s).up (by omega)) (okO_begin _ _)
structure OkE (e:Event):Prop where
 n:inK .u64 e.num
 d:e.data.length≤300
 k:e.keeps.length≤100
theorem okN_arm {N:Nat} {n:Node} {k:Int} (o:OkN N n) (h0:0≤k) (h1:k≤1000):OkN N (setSt n ⟨armV n.store.disk k,n.store.sup,n.store.mask⟩):=by
 refine okN_set o (Nat.le_refl _) ⟨⟨o.st.d.s,o.st.d.c,o.st.d.r,?_,?_,o.st.d.ds,o.st.d.dc⟩,o.st.b,o.st.v,o.st.m⟩
 ·show inK .i64 (maxI2 k 0)
  unfold maxI2
  split
  ·exact i64_0
  ·exact⟨by show(-9223372036854775808:Int)≤_;omega,by show _≤(9223372036854775807:Int);omega⟩
 ·show 0≤maxI2 k 0
  unfold maxI2
  split <;> omega
theorem unbe_w (t:Str) (i:Nat) (h:i+8≤t.length):inK .u64 (numAt t i):=by
 have:=unbe_lt 8 (sub t i (i+8)) (by rw [sub_len h];omega)
 have:unbe (sub t i (i+8)) < 18446744073709551616:=by simpa using this
 exact⟨by show(0:Int)≤((unbe _:Nat):Int);omega,by show((unbe _:Nat):Int)≤(18446744073709551615:Int);omega⟩
theorem decS6_w (b:Str):wSup (decS6 b).1:=by
 unfold decS6
 split
 ·exact⟨i64_0,wZV⟩
 split
 ·rename_i h
  have hl:=h.1
  have h3:=u8_lt ((openV b).1.getD 3 0)
  refine⟨⟨by show(-9223372036854775808:Int)≤((_:Nat):Int);omega,by show((_:Nat):Int)≤(9223372036854775807:Int);omega⟩,unbe_w _ _ (by omega),unbe_w _ _ (by omega),unbe_w _ _ (by omega),unbe_w _ _ (by omega)⟩
 ·exact⟨i64_0,wZV⟩
theorem loadS_w (d:Disk):wSup (loadS d).1:=by
 unfold loadS
 repeat' split
 all_goals first
  | exact⟨i64_0,wZV⟩
  | exact decS6_w _
theorem loadV_w (d:Disk):inK .u32 (loadV d).1:=by
 unfold loadV
 repeat' split
 all_goals first
  | exact inK_u32 (by decide)
  | skip
 all_goals
  rename_i h
  have h1:=unbe_lt 4 (openV (readV d 1).1).1 h.1
  exact inK_u32 (by simpa using h1)
theorem okS_zero (N:Nat):OkS N zSt:=
 ⟨⟨Nat.zero_le _,Nat.zero_le _,fun w h=>(by cases h),i64_0,by show(0:Int)≤0;omega,fun s h=>(by cases h),fun w h=>(by cases h)⟩,i64_0,wZV,inK_u32 (by decide)⟩
theorem okS_attach {N:Nat} {d:Disk} (o:OkD N d):OkS N (stAttach d).1:=by
 unfold stAttach
 repeat' split
 all_goals first
  | exact okS_zero N
  | exact⟨o,(loadS_w d).1,(loadS_w d).2,loadV_w d⟩
theorem okN_attach {N:Nat} {n:Node} {keeps:List Bool} (o:OkN N n):OkN N (attachN n keeps).1:=by
 have od:=revive_ok o.st.d keeps
 unfold attachN
 split
 ·exact o
 split
 ·exact okN_set o (Nat.le_refl _) ⟨od,o.st.b,o.st.v,o.st.m⟩
 ·exact okN_bare o (okS_attach od)
theorem ite_of {α:Type} {c:Prop} [Decidable c] {a b:α} {P:α->Prop} (h1:c->P a) (h2:¬ c->P b):P (if c then a else b):=by
 by_cases h:c
 ·rw [if_pos h];exact h1 h
 ·rw [if_neg h];exact h2 h
theorem okC_at {N:Nat} {c:Cluster} {e:Event} (o:OkC N c) (h64:64≤N) (oe:OkE e) (i:Bool):OkC (N+30) (doAt c e i).1:=by
 have on:=o.node i
 unfold doAt
 refine ite_of (P:=fun r:CO=>OkC (N+30) r.1) (fun _=>?_) (fun _=>?_)
 ·exact(okC_after o h64 i (okN_promote on h64) (okO_promote _ _)).up (by omega)
 refine ite_of (P:=fun r:CO=>OkC (N+30) r.1) (fun _=>?_) (fun _=>?_)
 ·exact(okC_after o h64 i (okN_demote on h64) (okO_demote _ _)).up (by omega)
 refine ite_of (P:=fun r:CO=>OkC (N+30) r.1) (fun _=>?_) (fun _=>?_)
 ·exact(okC_after o h64 i (okN_discard on h64) (okO_discard _ _)).up (by omega)
 refine ite_of (P:=fun r:CO=>OkC (N+30) r.1) (fun _=>?_) (fun _=>?_)
 ·exact(okC_after o h64 i (okN_read on) (okO_read _ _ _)).up (by omega)
 refine ite_of (P:=fun r:CO=>OkC (N+30) r.1) (fun _=>?_) (fun _=>?_)
 ·exact(okC_after o h64 i (okN_write on h64) (okO_write _ _ _ _)).up (by omega)
 refine ite_of (P:=fun r:CO=>OkC (N+30) r.1) (fun _=>?_) (fun _=>?_)
 ·exact okC_connect o h64 i
 refine ite_of (P:=fun r:CO=>OkC (N+30) r.1) (fun _=>?_) (fun _=>?_)
 ·have o1:OkC N (if e.kind=7 then setW c i false else c):=by
   split
   ·exact okC_want o _ _
   ·exact o
  generalize (if e.kind=7 then setW c i false else c)=c1 at o1 ⊢
  split
  ·exact(okC_end o1 h64).up (by omega)
  ·exact o1.up (by omega)
 refine ite_of (P:=fun r:CO=>OkC (N+30) r.1) (fun _=>?_) (fun _=>?_)
 ·split
  ·exact o.up (by omega)
  ·rename_i b r hq
   have hto:=o.l.to i
   rw [hq] at hto
   have o1:OkC N { c with link:=setTo c.link i r }:=⟨o.a,o.b,okL_to o.l i (by have:=hto.1;simp at this;omega) (fun x hx=>hto.2 x (List.mem_cons_of_mem _ hx))⟩
   exact(okC_after o1 h64 i (okN_receive on h64) (okO_receive _ _)).up (by omega)
 refine ite_of (P:=fun r:CO=>OkC (N+30) r.1) (fun _=>?_) (fun _=>?_)
 ·split
  ·exact(okC_after o h64 i ((okN_down on).up (by omega)) (okO_nil 3)).up (by omega)
  ·exact o.up (by omega)
 refine ite_of (P:=fun r:CO=>OkC (N+30) r.1) (fun _=>?_) (fun _=>?_)
 ·exact(okC_set o (Nat.le_refl N) (okN_attach on) i).up (by omega)
 refine ite_of (P:=fun r:CO=>OkC (N+30) r.1) (fun _=>?_) (fun _=>?_)
 ·refine(okC_after o h64 i (OkN.up (N:=N) ?_ (by omega)) (okO_nil 3)).up (by omega)
  dsimp only
  have h1:0≤e.num:=oe.n.1
  split
  ·exact okN_arm on (by omega) (by omega)
  ·exact on
 refine ite_of (P:=fun r:CO=>OkC (N+30) r.1) (fun _=>?_) (fun _=>?_)
 ·refine(okC_set o (by omega:N≤N+1) ?_ i).up (by omega)
  split
  ·refine⟨on.st.up (by omega),on.se,on.pe,on.rq,?_,?_,Nat.le_trans on.ml (by omega),on.wa⟩
   ·show(_++[e.num]).length≤N+1
    have:=on.dl
    simp;omega
   ·intro g hg
    rcases List.mem_append.1 hg with h | h
    ·exact on.dg g h
    ·simp at h;subst h;exact oe.n
  ·exact on.up (by omega)
 refine ite_of (P:=fun r:CO=>OkC (N+30) r.1) (fun _=>?_) (fun _=>?_)
 ·split
  ·exact o.up (by omega)
  ·exact(okC_after o h64 i (okN_receive on h64) (okO_receive _ _)).up (by omega)
 ·exact o.up (by omega)
theorem okC_do {N:Nat} {c:Cluster} {e:Event} (o:OkC N c) (h64:64≤N) (oe:OkE e):OkC (N+30) (doC c e).1:=by
 unfold doC
 split
 ·exact okC_at o h64 oe false
 split
 ·exact okC_at o h64 oe true
 ·exact o.up (by omega)
theorem okC_play:∀ {l:List Event} {N:Nat} {c:Cluster},OkC N c->64≤N->(∀ e∈l,OkE e)->OkC (N+30 * l.length) (playC c l)
 | [],N,c,o,_,_=>o
 | e :: l,N,c,o,h64,he=>by
  have:=okC_play (l:=l) (okC_do o h64 (he e (by simp))) (by omega) (fun x hx=>he x (by simp [hx]))
  exact this.up (by simp;omega)
end Gm
