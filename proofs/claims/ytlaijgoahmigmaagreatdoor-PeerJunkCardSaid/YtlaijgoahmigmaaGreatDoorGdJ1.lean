/- What the program's packet.Read answers: the document's (after the Packet seat's proofs). -/
import Derived.Test.YtlaijgoahmigmaaGreatDoorGdG2
set_option maxRecDepth 100000
namespace Gm
open Go
theorem num_get_ok {s:Str} (hs:s.length≤8) {K:Int->Prop} (h:K (unbe s)):q127.F s K:=by
 unfold q127.F
 refine loop_ok (I:=fun x:q127.L0=>∃ i:Nat,i≤s.length∧x=⟨s,unbe (s.take i),s.length,i⟩) (m:=fun x:q127.L0=>s.length - x.t6.toNat) ?_ ⟨0,by simp,rfl⟩
 rintro _ ⟨i,hi,rfl⟩ rec hrec
 unfold q127.b0
 dsimp only
 refine cond_ok (fun h1=>?_) (fun h1=>?_)
 ·have hlt:i < s.length:=by simpa using h1
  refine oget_ok (getI_ok hlt) ?_
  rw [wrap_i64 (x:=(i:Int)+1) (by omega)]
  refine hrec _ ⟨i+1,hlt,?_⟩ (by simp;omega)
  congr 1
  have h2:=unbe_lt i (s.take i) (by simp;omega)
  have h3:=pow256 (i:=i) (by omega)
  have h4:=u8_lt s[i]
  rw [unbe_take hlt]
  generalize unbe (s.take i)=y at *
  generalize s[i].toNat=z at *
  have e1:=ishl_nat (k:=.u64) rfl y (y:=8) (by decide)
  rw [show ((8:Nat):Int)=8 from rfl] at e1
  rw [e1,show IntKind.u64.wrap (z:Int)=(z:Int) by rw [wrap_u64];omega]
  have e2:y * 2 ^ 8 % 2 ^ IntKind.u64.bits=2 ^ 8 * y:=by
   show y * 256 % 18446744073709551616=256 * y
   omega
  rw [e2,ior_nat (k:=.u64) rfl (by show 2 ^ 8 * y < 2 ^ 64;omega) (by show z < 2 ^ 64;omega),← Nat.two_pow_add_eq_or_of_lt (by omega)]
  omega
 ·have hlt:i=s.length:=by have:¬ i < s.length:=by simpa using h1
                          omega
  subst hlt
  simpa using h
theorem num_Unflag_ok {b:Nat} (hb:b < 256) {n:Int} {K:(List Bool×Bool)->Prop} (h:K (unflag b n)):q133.F b n K:=by
 unfold q133.F
 unfold unflag at h
 refine cond_ok (fun h1=>?_) (fun h1=>?_)
 ·have h1:n < 0:=of_decide_eq_true h1
  rw [if_neg (by omega)] at h
  exact h
 have h1:¬ n < 0:=of_decide_eq_false h1
 refine cond_ok (fun h2=>?_) (fun h2=>?_)
 ·have h2:n > 8:=of_decide_eq_true h2
  rw [if_neg (by omega)] at h
  exact h
 have h2:¬ n > 8:=of_decide_eq_false h2
 obtain ⟨k,rfl⟩:∃ k:Nat,n=k:=⟨n.toNat,by omega⟩
 simp only [Int.toNat_natCast] at h ⊢
 refine gd_ok (by simp) ?_
 have e0:=ishr_nat (k:=.u8) b (y:=k) (by show k≤8;omega)
 rw [e0]
 refine cond_ok (fun h3=>?_) (fun h3=>?_)
 ·have h3:¬ b / 2 ^ k=0:=by
   intro e;rw [e] at h3;simp at h3
  rw [if_neg (by simp [h3])] at h
  exact h
 ·have h3:b / 2 ^ k=0:=by
   have:((b / 2 ^ k:Nat):Int)=0:=by
    rcases Bool.eq_false_or_eq_true (((b / 2 ^ k:Nat):Int)==0) with h4 | h4
    ·exact eq_of_beq h4
    ·rw [bne,h4] at h3;cases h3
   omega
  rw [if_pos ⟨by omega,by omega,h3⟩] at h
  refine gd_ok (by simp [room];omega) ?_
  refine loop_ok (I:=fun x:q133.L0=>∃ i:Nat,i≤k∧x=⟨b,unf b i++List.replicate (k - i) false,k,i⟩) (m:=fun x:q133.L0=>k - x.t24.toNat) ?_ ⟨0,by simp,by simp [unf]⟩
  rintro _ ⟨i,hi,rfl⟩ rec hrec
  unfold q133.b0
  dsimp only
  refine cond_ok (fun h4=>?_) (fun h4=>?_)
  ·have hlt:i < k:=by simpa using h4
   refine gd_ok (by simp) ?_
   refine gd_ok (by simp [unf];omega) ?_
   rw [wrap_i64 (x:=(i:Int)+1) (by omega)]
   refine hrec _ ⟨i+1,hlt,?_⟩ (by simp;omega)
   congr 1
   have e1:=ishr_nat (k:=.u8) b (y:=i) (by show i≤8;omega)
   have hq:b / 2 ^ i < 256:=Nat.lt_of_le_of_lt (Nat.div_le_self _ _) hb
   have e2:=iand_nat (k:=.u8) rfl (x:=b / 2 ^ i) (y:=1) hq (by decide)
   rw [e1,show(1:Int)=((1:Nat):Int) from rfl,e2,Nat.and_one_is_mod,unf_take b i]
   rw [show k - i=k - (i+1)+1 by omega,List.replicate_succ]
   have e3:=set_mid (unf b i) false ((((b / 2 ^ i % 2:Nat):Int))==((1:Nat):Int)) (List.replicate (k - (i+1)) false)
   rw [unf_length] at e3
   rw [Int.toNat_natCast,e3,List.append_assoc]
   congr 2
   rcases Nat.mod_two_eq_zero_or_one (b / 2 ^ i) with h5 | h5 <;> rw [h5] <;> rfl
  ·have hlt:i=k:=by have:¬ i < k:=by simpa using h4
                    omega
   subst hlt
   simpa using h
theorem num_Get32_ok {s:Str} {K:(Int×Bool)->Prop} (h:K (getN s 4)):q128.F s K:=by
 unfold q128.F q128.FV
 unfold getN at h
 refine cond_ok (fun h1=>?_) (fun h1=>?_)
 ·rw [if_neg (bne_nat (b:=4) h1)] at h;exact h
 ·have h2:=bne_nat' (b:=4) h1
  rw [if_pos h2] at h
  refine num_get_ok (by omega) ?_
  have:=unbe_lt 4 s h2
  rw [show IntKind.u32.wrap (unbe s:Int)=(unbe s:Int) by rw [wrap_u32];omega]
  exact h
theorem num_Get64_ok {s:Str} {K:(Int×Bool)->Prop} (h:K (getN s 8)):q131.F s K:=by
 unfold q131.F q131.FV
 unfold getN at h
 refine cond_ok (fun h1=>?_) (fun h1=>?_)
 ·rw [if_neg (bne_nat (b:=8) h1)] at h;exact h
 ·have h2:=bne_nat' (b:=8) h1
  rw [if_pos h2] at h
  exact num_get_ok (by omega) h
theorem check_Open_ok {s:Str} (hs:wStr s) {K:(Str×Int)->Prop} (h:K (openV s)):q130.F s K:=by
 unfold q130.F q130.FV
 have hb:s.length≤140737488351232:=hs
 rw [wrap_i64 (x:=(s.length:Int) - 4) (by omega)]
 unfold openV at h
 refine cond_ok (fun h1=>?_) (fun h1=>?_)
 ·have h1:(s.length:Int) - 4 < 0:=of_decide_eq_true h1
  rw [if_pos (by omega)] at h
  exact h
 ·have h1:¬ (s.length:Int) - 4 < 0:=of_decide_eq_false h1
  rw [if_neg (by omega)] at h
  have g1:(decide (0≤(s.length:Int) - 4)&&decide ((s.length:Int) - 4≤(s.length:Int)))=true:=by
   simp;omega
  have e1:((s.length:Int) - 4).toNat=s.length - 4:=by omega
  rw [e1,sub_take,sub_drop]
  refine gd_ok g1 (num_Get32_ok (gd_ok g1 (check_Sum_ok ?_ ?_)))
  ·unfold wStr;simp;omega
  ·have hd:(s.drop (s.length - 4)).length=4:=by simp;omega
   have hu:(getN (s.drop (s.length - 4)) 4).1=(unbe (s.drop (s.length - 4)):Int):=by
    unfold getN;rw [if_pos hd]
   rw [hu]
   have hsplit:s.take (s.length - 4)++s.drop (s.length - 4)=s:=List.take_append_drop _ _
   refine cond_ok (fun h2=>?_) (fun h2=>?_)
   ·have h2:=bne_nat h2
    rw [if_neg ?_] at h
    ·exact h
    ·intro he
     apply h2
     unfold sealV at he
     have h3:be (fnv (s.take (s.length - 4))) 4=s.drop (s.length - 4):=by
      have:=he.trans hsplit.symm
      exact List.append_cancel_left this
     rw [← h3,unbe_be]
     have:=fnv_lt (s.take (s.length - 4))
     omega
   ·have h2:=bne_nat' h2
    rw [if_pos ?_] at h
    ·exact gd_ok g1 h
    ·unfold sealV
     rw [← h2,be_unbe 4 _ hd,hsplit]
theorem hello_Decode_ok {b:Str} {K:(Hello×Int)->Prop} (k:K (decV b)):q139.F b K:=by
 unfold q139.F q139.FV
 refine cond_ok (fun h1=>?_) (fun h1=>?_)
 ·have h1:b.length≠38:=bne_nat (b:=38) h1
  unfold decV at k
  rw [if_neg (by simp [h1])] at k
  exact k
 have hl:b.length=38:=bne_nat' (b:=38) h1
 refine oget_ok (getI_lit 0 (i:=1) (by omega)) ?_
 refine num_Unflag_ok (u8_lt _) ?_
 have hu:unflag (b.getD 1 0).toNat 4=if (b.getD 1 0).toNat < 16 then([bit (b.getD 1 0) 0,bit (b.getD 1 0) 1,bit (b.getD 1 0) 2,bit (b.getD 1 0) 3],true)else([],false):=by
  unfold unflag
  by_cases h2:(b.getD 1 0).toNat < 16
  ·rw [if_pos h2,if_pos ⟨by decide,by decide,by show _ / 2 ^ 4=0;omega⟩]
   rfl
  ·rw [if_neg h2,if_neg]
   rintro ⟨-,-,h3⟩
   have h3:(b.getD 1 0).toNat / 2 ^ 4=0:=h3
   omega
 by_cases h2:(b.getD 1 0).toNat < 16
 ·rw [hu,if_pos h2]
  refine cond_f rfl (oget_ok (getI_lit 0 (i:=0) (by omega)) (oget_ok rfl (oget_ok rfl (oget_ok rfl (oget_ok rfl ?_)))))
  refine gd_ok (by simp [hl]) (num_Get64_ok (gd_ok (by simp [hl]) (num_Get64_ok (gd_ok (by simp [hl]) (num_Get64_ok (gd_ok (by simp [hl]) (num_Get64_ok (gd_ok (by simp [hl]) (num_Get32_ok ?_)))))))))
  rw [sub_drop]
  simp only [show Int.toNat 2=2 from rfl,show Int.toNat 10=10 from rfl,show Int.toNat 18=18 from rfl,show Int.toNat 26=26 from rfl,show Int.toNat 34=34 from rfl]
  rw [getN_of (sub_len (by omega)),getN_of (sub_len (by omega)),getN_of (sub_len (by omega)),getN_of (sub_len (by omega)),getN_of (s:=b.drop 34) (by simp;omega)]
  have e0:IntKind.i64.wrap ((b.getD 0 0).toNat:Int)=((b.getD 0 0).toNat:Int):=by
   have:=u8_lt (b.getD 0 0)
   rw [wrap_i64 (by omega)]
  rw [e0]
  refine hello_Right_ok (wH_of hl) (cond_ok (fun h3=>?_) (fun h3=>?_))
  ·have h3:hRight (hOfBytes b)=false:=by simpa using h3
   unfold decV at k
   rw [if_neg (by simp [h3])] at k
   exact k
  ·have h3:hRight (hOfBytes b)=true:=by simpa using h3
   unfold decV at k
   rw [if_pos ⟨hl,h2,h3⟩] at k
   exact k
 ·rw [hu,if_neg h2]
  unfold decV at k
  rw [if_neg (by simp only [not_and];intro _ h3;exact absurd h3 h2)] at k
  exact cond_t rfl k
theorem packet_Decode_ok {b:Str} (hs:b.length≤10000) {K:(Packet×Int)->Prop} (h:K (decP b)):q143.F b K:=by
 unfold q143.F q143.FV
 unfold decP at h
 have hol:=openV_len b
 refine check_Open_ok (wStr_of (by omega)) (cond_ok (fun e1=>?_) (fun e1=>?_))
 ·rw [if_pos (by simpa using e1)] at h
  exact cond_t e1 h
 rw [if_neg (by simpa using e1)] at h
 generalize (openV b).1=t at h hol ⊢
 refine cond_ok (fun e2=>?_) (fun e2=>?_)
 ·have e2:(t.length:Int) < 9:=of_decide_eq_true e2
  rw [if_pos (by omega)] at h;exact h
 have e2:¬ (t.length:Int) < 9:=of_decide_eq_false e2
 have hl:9≤t.length:=by omega
 rw [if_neg (by omega)] at h
 unfold decT at h
 refine oget_ok (getI_lit 0 (i:=0) (by omega)) (gd_ok (by simp;omega) ?_)
 show q131.F (sub t 1 9) _
 refine num_Get64_ok ?_
 rw [getN_of (sub_len (by omega))]
 have e0:IntKind.i64.wrap ((t.getD 0 0).toNat:Int)=kOf t:=by
  have:=u8_lt (t.getD 0 0)
  rw [wrap_i64 (by omega)]
  rfl
 rw [e0]
 refine packet_of_ok (cond_ok (fun e3=>?_) (fun e3=>?_))
 ·have e3:decide (1≤kOf t∧kOf t≤13)=false:=not_t e3
  have e3':=of_decide_eq_false e3
  unfold pOf at h
  rw [if_neg (by omega),if_neg (by unfold blk;simp;omega)] at h
  replace h:K (okP ⟨kOf t,sOf t,zeroH,0,t.drop 9⟩):=h
  rw [okP_f (by unfold pRight;dsimp only;rw [e3,Bool.false_and])] at h
  exact h
 refine gd_ok (by simp;omega) ?_
 have es:sub t (Int.toNat 9) t.length=t.drop 9:=sub_drop
 rw [es]
 refine cond_ok (fun e4=>?_) (fun e4=>?_)
 ·have e4:kOf t=1:=of_decide_eq_true (show decide (kOf t=1)=true from e4)
  unfold pOf at h
  rw [if_pos e4] at h
  refine hello_Decode_ok (cond_ok (fun e5=>?_) (fun e5=>?_))
  ·rcases decV_cases (t.drop 9) with ⟨e,_⟩ | e
   ·rw [e] at e5;cases e5
   ·rw [e] at h ⊢
    exact cond_t rfl h
  ·have e5':(decV (t.drop 9)).2=0:=by simpa using e5
   rw [if_pos e5'] at h
   exact fin_ok (p:=⟨kOf t,sOf t,(decV (t.drop 9)).1,0,[]⟩) (wDec _) h
 ·have e4:kOf t≠1:=of_decide_eq_false (show decide (kOf t=1)=false from e4)
  unfold pOf at h
  rw [if_neg e4] at h
  refine cond_ok (fun e5=>?_) (fun e5=>?_)
  ·rw [if_pos (show blk (kOf t)=true from e5)] at h
   refine cond_ok (fun e6=>?_) (fun e6=>?_)
   ·rw [if_pos (by simpa using e6)] at h;exact h
   ·have e6:t.drop 9≠[]:=by simpa using e6
    rw [if_neg e6] at h
    have hpos:0 < (t.drop 9).length:=List.length_pos_iff.2 e6
    refine oget_ok (getI_lit 0 (i:=0) hpos) (gd_ok (by simp;simp at hpos;omega) ?_)
    have es2:sub (t.drop 9) (Int.toNat 1) (t.drop 9).length=(t.drop 9).drop 1:=sub_drop
    have e7:IntKind.i64.wrap (((t.drop 9).getD 0 0).toNat:Int)=(((t.drop 9).getD 0 0).toNat:Int):=by
     have:=u8_lt ((t.drop 9).getD 0 0)
     exact wrap_i64 (by omega)
    rw [es2,e7]
    exact fin_ok (p:=⟨kOf t,sOf t,zeroH,(((t.drop 9).getD 0 0).toNat:Int),(t.drop 9).drop 1⟩) wZ h
  ·rw [if_neg (by rw [show blk (kOf t)=false from e5];simp)] at h
   exact fin_ok (p:=⟨kOf t,sOf t,zeroH,0,t.drop 9⟩) wZ h
theorem packet_Read_ok {b:Str} {session:Int} (hs:b.length≤10000) {K:(Packet×Int)->Prop} (h:K (readP b session)):q144.F b session K:=by
 unfold q144.F q144.FV
 unfold readP at h
 refine packet_Decode_ok hs (cond_ok (fun e=>?_) (fun e=>?_))
 ·rw [if_pos (by simpa using e)] at h
  refine cond_ok (fun e2=>?_) (fun e2=>?_)
  ·rw [if_neg (by simpa using e2)] at h;exact h
  ·rw [if_pos (by simpa using e2)] at h;exact h
 ·rw [if_neg (by simpa using e)] at h
  exact h
end Gm

set_option maxRecDepth 100000
namespace Gm
open Go
theorem in_ok {n:Node} {l:List Int} (hl:l.length≤1000) {K:Bool->Prop} (k:K (decide (n.state∈l))):q147.F n l K:=by
 unfold q147.F
 refine loop_ok (I:=fun x:q147.L0=>∃ i:Nat,i≤l.length∧(∀ v∈l.take i,n.state≠v)∧x=⟨l,(l.length:Int),i,n⟩) (m:=fun x:q147.L0=>l.length - x.t9.toNat) ?_ ⟨0,by omega,by simp,rfl⟩
 rintro _ ⟨i,hi,hn,rfl⟩ rec hrec
 unfold q147.b0
 dsimp only
 refine cond_ok (fun h=>?_) (fun h=>?_)
 ·have hlt:=lt_of_dec h
  refine oget_ok (getI_ok hlt) (cond_ok (fun h2=>?_) (fun h2=>?_))
  ·have hm:n.state∈l:=by rw [eq_t h2];exact List.getElem_mem hlt
   rw [decide_eq_true hm] at k
   exact k
  ·rw [wrap_lt hlt (by unfold big;omega)]
   refine hrec _ ⟨i+1,hlt,?_,rfl⟩ (by dsimp only;omega)
   intro v hv
   rw [take_succ hlt] at hv
   rcases List.mem_append.1 hv with hv | hv
   ·exact hn v hv
   ·cases List.mem_singleton.1 hv
    exact eq_f h2
 ·have e:=le_of_dec h hi
  subst e
  rw [List.take_length] at hn
  have hm:¬ n.state∈l:=fun hm=>hn _ hm rfl
  rw [decide_eq_false hm] at k
  exact k
def stL (kind:Int):List Int:=
 if kind=1 then [1] else if kind=2 then [2,4] else if kind=4 then [2,4] else if kind=3 then [2,3] else if kind=5 then [3] else if kind=7 then [3] else if kind=8 then [3]
 else if kind=6 then [4] else if kind=9 then [4] else if kind=10 then [2,3,4] else if kind=13 then [2,3,4] else if kind=11 then [2,3,4] else if kind=12 then [2,3,4] else []
theorem ite_len {b:Prop} [Decidable b] {l m:List Int} (hl:l.length≤1000) (hm:m.length≤1000):(if b then l else m).length≤1000:=by
 split
 ·exact hl
 ·exact hm
theorem stL_len (kind:Int):(stL kind).length≤1000:=by
 unfold stL
 repeat' with_reducible apply ite_len
 all_goals decide
theorem ifc {b:Int} {c:Int} {α:Type} {x y:α} {K:α->Prop} {Q:Prop} (k:K (if b=c then x else y)) (_:K x->True) (h2:K y->Q):bif b==c then K x else Q:=by
 refine cond_ok (fun h=>?_) (fun h=>?_)
 ·rw [if_pos (eq_t h)] at k;exact k
 ·rw [if_neg (eq_f h)] at k;exact h2 k
theorem states_ok {kind:Int} {K:List Int->Prop} (k:K (stL kind)):q146.F kind K:=by
 unfold q146.F
 unfold stL at k
 exact ifc k (fun _=>trivial) fun k=>ifc k (fun _=>trivial) fun k=>ifc k (fun _=>trivial) fun k=>ifc k (fun _=>trivial) fun k=>ifc k (fun _=>trivial) fun k=>ifc k (fun _=>trivial) fun k=>ifc k (fun _=>trivial) fun k=>ifc k (fun _=>trivial) fun k=>ifc k (fun _=>trivial) fun k=>ifc k (fun _=>trivial) fun k=>ifc k (fun _=>trivial) fun k=>ifc k (fun _=>trivial) fun k=>ifc k (fun _=>trivial) fun k=>k
def tailF (n:Node) (p:Packet):Bool:=if p.kind=2 then !n.primary else if p.kind=9 then !n.store.sup.inc else if p.kind=11 then n.asking else if p.kind=12 then n.asking else true
theorem fitK_of (n:Node) (p:Packet):fitK n p=(decide (n.state∈stL p.kind)&&tailF n p):=by
 unfold fitK stL tailF
 by_cases k1:p.kind=1
 ·rw [Bool.eq_iff_iff];simp [k1]
 by_cases k2:p.kind=2
 ·rw [Bool.eq_iff_iff];simp [k2,and_comm]
 by_cases k3:p.kind=3
 ·rw [Bool.eq_iff_iff];simp [k3]
 by_cases k4:p.kind=4
 ·rw [Bool.eq_iff_iff];simp [k4]
 by_cases k5:p.kind=5
 ·rw [Bool.eq_iff_iff];simp [k5]
 by_cases k6:p.kind=6
 ·rw [Bool.eq_iff_iff];simp [k6]
 by_cases k7:p.kind=7
 ·rw [Bool.eq_iff_iff];simp [k7]
 by_cases k8:p.kind=8
 ·rw [Bool.eq_iff_iff];simp [k8]
 by_cases k9:p.kind=9
 ·rw [Bool.eq_iff_iff];simp [k9]
 by_cases k10:p.kind=10
 ·rw [Bool.eq_iff_iff];simp [k10]
 by_cases k11:p.kind=11
 ·rw [Bool.eq_iff_iff];simp [k11,and_comm]
 by_cases k12:p.kind=12
 ·rw [Bool.eq_iff_iff];simp [k12,and_comm]
 by_cases k13:p.kind=13
 ·rw [Bool.eq_iff_iff];simp [k13]
 ·simp [*]
theorem tailP20 {n:Node} {p:Packet} {K:Bool->Prop} (k:K (tailF n p)):(bif(p.kind==2)then(K (!n.primary))else(bif(p.kind==9)then(K (!n.store.sup.inc))else(bif(p.kind==11)then(K n.asking)else(bif(p.kind==12)then(K n.asking)else(K true))))):=by
 unfold tailF at k
 exact ifc k (fun _=>trivial) fun k=>ifc k (fun _=>trivial) fun k=>ifc k (fun _=>trivial) fun k=>ifc k (fun _=>trivial) fun k=>k
theorem fitP20_ok {n:Node} {p:Packet} {K:Bool->Prop} (k:K (fitK n p)) :
  q146.F p.kind fun r2=>q147.F n r2 fun r3=>(bif(!r3)then(K false)else(bif(p.kind==2)then(K (!n.primary))else(bif(p.kind==9)then(K (!n.store.sup.inc))else(bif(p.kind==11)then(K n.asking)else(bif(p.kind==12)then(K n.asking)else(K true)))))):=by
 rw [fitK_of] at k
 refine states_ok (in_ok (stL_len _) (cond_ok (fun h=>?_) (fun h=>?_)))
 ·rw [not_t h,Bool.false_and] at k;exact k
 ·rw [not_f h,Bool.true_and] at k;exact tailP20 k
theorem FitsP_ok {n:Node} {p:Packet} {K:Bool->Prop} (k:K (fitsN n p)):q148.F n p K:=by
 rw [fits_of] at k
 unfold q148.F q148.FV
 refine cond_ok (fun h=>?_) (fun hu=>?_)
 ·rw [if_pos (.inl (not_t h))] at k;exact k
 have hu:=not_f hu
 have hb:∀ {K:Bool->Prop},K (blk p.kind)->q145.F p.kind K:=by
  intro K k
  unfold q145.F
  unfold blk at k
  refine cond_ok (fun h=>?_) (fun h=>?_)
  ·have h:=of_decide_eq_true h
   by_cases h7:p.kind≤7
   ·rw [decide_eq_true ⟨h,h7⟩] at k
    rw [decide_eq_true h7];exact k
   ·rw [decide_eq_false (fun e=>h7 e.2)] at k
    rw [decide_eq_false h7];exact k
  ·have h:=of_decide_eq_false h
   rw [decide_eq_false (fun e=>h e.1)] at k;exact k
 refine hb (cond_ok (fun h1=>cond_ok (fun h2=>?_) (fun h2=>?_)) (fun h1=>?_))
 ·rw [if_pos (.inr ⟨h1,of_decide_eq_true h2⟩)] at k;exact k
 ·rw [if_neg (fun e=>e.elim (nf hu) (fun e=>of_decide_eq_false h2 e.2))] at k
  exact fitP20_ok k
 ·rw [if_neg (fun e=>e.elim (nf hu) (fun e=>nt h1 e.1))] at k
  exact fitP20_ok k
section
variable {N:Nat} {n:Node} (hN:N≤6800) (h64:64≤N) (o:OkN N n)
include hN h64 o
theorem CleanedP_ok {b:Int} {K:NO->Prop} (k:K (cleanedN n b)):q201.F n b K:=by
 unfold q201.F q201.FV
 unfold cleanedN wipeN keepN at k
 refine storeWipe_ok (by omega) h64 o.st (cond_ok (fun h=>?_) (fun h=>?_))
 ·rw [if_neg (ne_t h)] at k;exact nodeDown_ok k
 ·rw [if_pos (ne_f h)] at k;exact k
theorem RolesP_ok {kind:Int} (hk:kind=10∨kind=11∨kind=12∨kind=13) {K:NO->Prop} (k:K (rolesN n kind)):q209.F n kind K:=by
 unfold q209.F q209.FV
 unfold rolesN at k
 refine cond_ok (fun h=>?_) (fun h0=>?_)
 ·rw [if_pos (eq_t h)] at k
  refine cond_ok (fun hp=>?_) (fun hp=>cond_ok (fun ha=>?_) (fun ha=>?_))
  ·rw [if_pos (.inl hp)] at k
   exact packet_Encode_ok (by exact wZH) (by exact o.se) (gd_ok out1 k)
  ·rw [if_pos (.inr ha)] at k
   exact packet_Encode_ok (by exact wZH) (by exact o.se) (gd_ok out1 k)
  ·rw [if_neg (fun e=>e.elim (nt hp) (nt ha))] at k
   exact packet_Encode_ok (by exact wZH) (by exact o.se) (gd_ok out1 k)
 rw [if_neg (eq_f h0)] at k
 refine cond_ok (fun h=>?_) (fun h1=>?_)
 ·have h:=eq_t h
  rw [if_neg (by omega),if_neg (by omega)] at k
  unfold commitN keepN at k
  dsimp only at k
  refine storeCommit_ok (b:=priS n.store.sup true) (by omega) h64 o.st ⟨o.st.b,o.st.v⟩ (cond_ok (fun hc=>?_) (fun hc=>?_))
  ·have hc:=ne_t hc
   rw [if_neg hc] at k
   exact nodeDown_ok (cond_t (by rw [ne0 hc];rfl) k)
  ·have hc:=ne_f hc
   rw [if_pos hc] at k
   exact cond_f (by rw [eq0 hc];rfl) (gd_ok out1 k)
 have h1:=eq_f h1
 refine cond_ok (fun h=>?_) (fun h2=>?_)
 ·rw [if_pos (eq_t h)] at k
  exact gd_ok out1 k
 have h2:=eq_f h2
 rw [if_neg h2] at k
 refine cond_ok (fun h=>?_) (fun h3=>?_)
 ·rw [if_pos (eq_t h)] at k;exact k
 ·have h3:=eq_f h3
  have h0:=eq_f h0
  omega
theorem TakeP_ok {p:Packet} (hid:n.id=0∨n.id=1) (hw:wHello p.hello) (hr:pRight p=true) (_:fitsN n p=true) {K:NO->Prop} (k:K (takeN n p)):q210.F n p K:=by
 obtain ⟨hk,_,hB,_⟩:=right_parts hr
 unfold q210.F q210.FV
 unfold takeN at k
 refine cond_ok (fun h=>?_) (fun h1=>?_)
 ·rw [if_pos (eq_t h)] at k;exact MetP_ok hN h64 o hid hw k
 rw [if_neg (eq_f h1)] at k
 refine cond_ok (fun h=>?_) (fun h2=>?_)
 ·rw [if_pos (eq_t h)] at k;exact Apply_ok (by omega) h64 o k
 rw [if_neg (eq_f h2)] at k
 refine cond_ok (fun h=>?_) (fun h3=>?_)
 ·rw [if_pos (eq_t h)] at k;exact Acked_ok (by omega) h64 o k
 rw [if_neg (eq_f h3)] at k
 refine cond_ok (fun h=>?_) (fun h4=>?_)
 ·rw [if_pos (eq_t h)] at k;exact CleanedP_ok hN h64 o k
 rw [if_neg (eq_f h4)] at k
 refine cond_ok (fun h=>?_) (fun h5=>?_)
 ·rw [if_pos (eq_t h)] at k;exact GiveP_ok (by omega) o k
 rw [if_neg (eq_f h5)] at k
 refine cond_ok (fun h=>?_) (fun h6=>?_)
 ·have h:=eq_t h
  rw [if_pos h] at k
  have hb:0≤p.block∧p.block < 9223372036854775807:=by
   unfold pBlk at hB
   rw [show blk p.kind=true by rw [h];rfl] at hB
   have:=of_decide_eq_true hB
   omega
  exact GotP_ok (by omega) h64 o hb k
 rw [if_neg (eq_f h6)] at k
 refine cond_ok (fun h=>?_) (fun h7=>?_)
 ·rw [if_pos (eq_t h)] at k;exact CopiedP_ok (by omega) h64 o k
 rw [if_neg (eq_f h7)] at k
 refine cond_ok (fun h=>?_) (fun h8=>?_)
 ·rw [if_pos (eq_t h)] at k;exact EndedP_ok (by omega) h64 o k
 rw [if_neg (eq_f h8)] at k
 refine cond_ok (fun h=>?_) (fun h9=>?_)
 ·rw [if_pos (eq_t h)] at k;exact DoneP_ok k
 rw [if_neg (eq_f h9)] at k
 have h1:=eq_f h1
 have h2:=eq_f h2
 have h3:=eq_f h3
 have h4:=eq_f h4
 have h5:=eq_f h5
 have h6:=eq_f h6
 have h7:=eq_f h7
 have h8:=eq_f h8
 have h9:=eq_f h9
 exact RolesP_ok hN h64 o (by omega) k
theorem ReceiveP_ok {b:Str} (hb:b.length≤10000) (hid:n.id=0∨n.id=1) {K:NO->Prop} (k:K (receiveN n b)):q211.F n b K:=by
 unfold q211.F q211.FV
 unfold receiveN at k
 refine cond_ok (fun h=>?_) (fun hu=>?_)
 ·rw [if_pos (.inl (not_t h))] at k;exact k
 refine cond_ok (fun h=>?_) (fun hs=>?_)
 ·rw [if_pos (.inr (eq_t h))] at k;exact k
 rw [if_neg (fun e=>e.elim (nf (not_f hu)) (eq_f hs))] at k
 refine packet_Read_ok hb ?_
 have hr:(readP b n.session).2=0->pRight (readP b n.session).1=true:=by
  intro e
  unfold readP at e ⊢
  rcases decP_cases b with ⟨p,e1,h1,_⟩ | ⟨m,hm,e1⟩
  ·rw [e1] at e ⊢
   dsimp only at e ⊢
   rw [if_pos rfl] at e ⊢
   split at e
   ·rename_i c
    rw [if_pos c]
    exact h1
   ·cases e
  ·rw [e1] at e ⊢
   dsimp only at e ⊢
   rw [if_neg hm] at e
   exact(hm e).elim
 have hw:=read_w b n.session
 generalize readP b n.session=r at k hr hw ⊢
 refine cond_ok (fun h=>?_) (fun h16=>?_)
 ·rw [if_pos (eq_t h)] at k;exact k
 rw [if_neg (eq_f h16)] at k
 refine cond_ok (fun h=>?_) (fun h0=>?_)
 ·rw [if_pos (.inl (ne_t h))] at k;exact k
 have h0:=ne_f h0
 refine FitsP_ok (cond_ok (fun h=>?_) (fun h=>?_))
 ·rw [if_pos (.inr (not_t h))] at k;exact k
 ·have h:=not_f h
  rw [if_neg (fun e=>e.elim (fun e=>e h0) (nf h))] at k
  exact TakeP_ok hN h64 o hid hw (hr h0) h k
end
theorem bytes20_ok {p:Packet} {s:Int} (hw:wHello p.hello) (hs:inK .u64 s) {K:Str->Prop} (k:K (encP ⟨p.kind,s,p.hello,p.block,p.data⟩).1):q212.F p s K:=by
 unfold q212.F q212.FV
 exact ref13_Encode_ok (p:=⟨p.kind,s,p.hello,p.block,p.data⟩) hw hs k
theorem Side20_ok {c:Case} {K:Int->Prop} (k:K (bI c.side)):q215.F c K:=by
 unfold q215.F
 cases h:c.side <;> rw [h] at k
 ·exact k
 ·exact k
theorem Node20_ok {c:Case} (h0:0≤c.blocks) (hl:c.l.length≤100) (he:∀ e∈c.l,OkE e) {K:Node->Prop} (k:K (nodeC (reachC c.blocks c.l) c.side)):q216.F c K:=by
 unfold q216.F q216.FV
 refine Reach_ok h0 hl he (Side20_ok ?_)
 cases h:c.side <;> rw [h] at k
 ·exact cond_t rfl k
 ·exact cond_f rfl (cond_t rfl k)
def evJ:List Event:=[⟨6,0,0,0,[],0,[]⟩,⟨6,1,0,0,[],0,[]⟩,⟨9,0,0,0,[],0,[]⟩,⟨9,1,0,0,[],0,[]⟩,⟨1,0,5,0,[],0,[]⟩]
theorem evJ_ok:∀ e∈evJ,OkE e:=by
 intro e h
 simp only [evJ,List.mem_cons,List.not_mem_nil,or_false] at h
 rcases h with rfl | rfl | rfl | rfl | rfl
 all_goals exact okE_lit u64_0
def cJ:Cluster:=reachC 1 evJ
theorem oJ:OkC 214 cJ:=okC_reach (b:=1) evJ_ok
theorem iJ0:cJ.n0.id=0:=(idc_reach (b:=1) (l:=evJ)).1
theorem iJ1:cJ.n1.id=1:=(idc_reach (b:=1) (l:=evJ)).2
def junk:Str:=[106,117,110,107]
def byJ (kind s:Int):Str:=(encP ⟨kind,s,zeroH,0,[]⟩).1
theorem byJ_len (kind s:Int):(byJ kind s).length≤10000:=Nat.le_trans encP_len (by decide)
def s1J:Int:=IntKind.u64.wrap (cJ.n0.session+1)
theorem s1J_ok:inK .u64 s1J:=by
 unfold s1J
 rw [wrap_u64]
 exact⟨by show(0:Int)≤_;omega,by show _≤(18446744073709551615:Int);omega⟩
def aJ:NO:=receiveN cJ.n0 junk
def bJ:NO:=receiveN cJ.n0 (byJ 11 s1J)
def xJ:NO:=receiveN cJ.n0 (byJ 11 cJ.n0.session)
def yJ:NO:=receiveN cJ.n1 (byJ 10 cJ.n1.session)
def zJ:NO:=receiveN cJ.n0 (byJ 12 cJ.n0.session)
theorem oXJ:OkN 218 xJ.1:=okN_receive oJ.a (by decide)
theorem iXJ:xJ.1.id=0:=id_receive.trans iJ0
def gJ:NO:=receiveN xJ.1 (byJ 10 xJ.1.session)
theorem alive20_ok {K:Bool->Prop} (k:K true):q213.F K:=by
 unfold q213.F q213.FV
 refine Reach_ok (b:=1) (l:=evJ) (by decide) (by decide) evJ_ok ?_
 refine cond_f (show(cJ.n0.state != 2)=false by kernel_rfl) (cond_f (show(cJ.n1.state != 2)=false by kernel_rfl) (cond_f (show(!cJ.n0.asking)=false by kernel_rfl) ?_))
 refine ReceiveP_ok (N:=214) (n:=cJ.n0) (b:=junk) (by decide) (by decide) oJ.a (by decide) (.inl iJ0) ?_
 refine bytes20_ok wZH s1J_ok (ReceiveP_ok (N:=214) (n:=cJ.n0) (b:=byJ 11 s1J) (by decide) (by decide) oJ.a (byJ_len _ _) (.inl iJ0) ?_)
 refine bytes20_ok wZH oJ.a.se (ReceiveP_ok (N:=214) (n:=cJ.n0) (b:=byJ 11 cJ.n0.session) (by decide) (by decide) oJ.a (byJ_len _ _) (.inl iJ0) ?_)
 refine bytes20_ok wZH oJ.b.se (ReceiveP_ok (N:=214) (n:=cJ.n1) (b:=byJ 10 cJ.n1.session) (by decide) (by decide) oJ.b (byJ_len _ _) (.inr iJ1) ?_)
 refine bytes20_ok wZH oJ.a.se (ReceiveP_ok (N:=214) (n:=cJ.n0) (b:=byJ 12 cJ.n0.session) (by decide) (by decide) oJ.a (byJ_len _ _) (.inl iJ0) ?_)
 refine bytes20_ok wZH oXJ.se (ReceiveP_ok (N:=218) (n:=xJ.1) (b:=byJ 10 xJ.1.session) (by decide) (by decide) oXJ (byJ_len _ _) (.inl iXJ) ?_)
 refine cond_f (show((aJ.2.length:Int) != 1)=false by kernel_rfl) ?_
 refine cond_f (show((bJ.2.length:Int) != 0)=false by kernel_rfl) ?_
 refine cond_f (show((xJ.2.length:Int) != 1)=false by kernel_rfl) ?_
 refine cond_f (show((yJ.2.length:Int) != 1)=false by kernel_rfl) ?_
 refine cond_f (show((zJ.2.length:Int) != 1)=false by kernel_rfl) ?_
 refine cond_f (show((gJ.2.length:Int) != 1)=false by kernel_rfl) ?_
 refine oget_ok (v:=h0 aJ.2) (show getI aJ.2 0=some (h0 aJ.2) by kernel_rfl) ?_
 refine cond_t (show(((h0 aJ.2).kind==3)&&(((h0 aJ.2).node==0)&&(((h0 aJ.2).id==0)&&(((h0 aJ.2).err==0)&&(((h0 aJ.2).data==([]:Str))&&true)))))=true by kernel_rfl) ?_
 refine oget_ok (v:=h0 xJ.2) (show getI xJ.2 0=some (h0 xJ.2) by kernel_rfl) ?_
 refine cond_t (show(((h0 xJ.2).kind==2)&&(((h0 xJ.2).node==0)&&(((h0 xJ.2).id==5)&&(((h0 xJ.2).err==0)&&(((h0 xJ.2).data==([]:Str))&&true)))))=true by kernel_rfl) ?_
 refine cond_t (show xJ.1.primary=true by kernel_rfl) ?_
 refine cond_t (show(!xJ.1.asking)=true by kernel_rfl) ?_
 refine cond_t (show xJ.1.store.sup.pri=true by kernel_rfl) ?_
 refine cond_t (show yJ.1.peerPri=true by kernel_rfl) ?_
 refine oget_ok (v:=h0 yJ.2) (show getI yJ.2 0=some (h0 yJ.2) by kernel_rfl) ?_
 refine bytes20_ok wZH oJ.b.se (cond_t (show((h0 yJ.2).data==byJ 11 cJ.n1.session)=true by kernel_rfl) ?_)
 refine oget_ok (v:=h0 zJ.2) (show getI zJ.2 0=some (h0 zJ.2) by kernel_rfl) ?_
 refine cond_t (show((h0 zJ.2).err==12)=true by kernel_rfl) ?_
 refine cond_t (show(!zJ.1.asking)=true by kernel_rfl) ?_
 refine oget_ok (v:=h0 gJ.2) (show getI gJ.2 0=some (h0 gJ.2) by kernel_rfl) ?_
 refine bytes20_ok wZH oJ.a.se (cond_t (show((h0 gJ.2).data==byJ 12 cJ.n0.session)=true by kernel_rfl) ?_)
 refine FitsP_ok (cond_t (show fitsN cJ.n0 ⟨10,0,zeroH,0,[]⟩=true by kernel_rfl) ?_)
 refine FitsP_ok ?_
 have e:(!fitsN cJ.n0 ⟨8,0,zeroH,0,[]⟩)=true:=by kernel_rfl
 exact use_eq k e.symm
theorem junk_tail {N:Nat} {n:Node} {e:Int} {r:NO} (hN:N≤1000000) (o:OkN N n) (h:(r=(n,[])∧(n.up=false∨n.state=0∨e=16))∨(r=(n,[closeO n])∧n.up=true∧n.state≠0∧e≠16)) {K:Bool->Prop} (k:K true) :
  q221.F r.1 n fun r8=>(bif(!r8)then(K false)else(bif(!n.up)then(K ((r.2.length:Int)==0))else(bif(n.state==0)then(K ((r.2.length:Int)==0))else(bif(e==16)then(K ((r.2.length:Int)==0))else(bif((r.2.length:Int)==1)then(oget (getI r.2 0) fun v9=>(K ((v9.kind==3)&&((v9.node==n.id)&&((v9.id==0)&&((v9.err==0)&&((v9.data==([]:Str))&&true)))))))else(K false)))))):=by
 rcases h with ⟨rfl,h⟩ | ⟨rfl,h1,h2,h3⟩
 ·refine nodeSame_ok hN o (cond_f rfl (cond_ok (fun _=>k) (fun hu=>cond_ok (fun _=>k) (fun hs=>cond_ok (fun _=>k) (fun he=>?_)))))
  rcases h with h | h | h
  ·exact(nf (not_f hu) h).elim
  ·exact(eq_f hs h).elim
  ·exact(eq_f he h).elim
 ·refine nodeSame_ok hN o (cond_f rfl (cond_f (by rw [h1];rfl) (cond_f (beq_eq_false_iff_ne.2 h2) (cond_f (beq_eq_false_iff_ne.2 h3) (cond_t rfl (oget_ok (v:=closeO n) rfl ?_))))))
  refine use_eq k ?_
  simp [closeO]
theorem PeerJunk_ok {c:Case} {b:Str} (h0:0≤c.blocks) (hw:∀ e∈c.l,inK .u64 e.num) {K:Bool->Prop} (k:K true):q222.F c b K:=by
 unfold q222.F q222.FV
 refine alive20_ok (cond_f rfl (Great_ok (most:=60) (by decide) k (fun hl he=>cond_f rfl (cond_ok (fun _=>k) (fun hb=>?_)))))
 have hb:¬ (b.length:Int) > 500:=of_decide_eq_false hb
 have hE:∀ e∈c.l,OkE e:=fun e h=>okE_of (hw e h) (he e h)
 have on:OkN 2000 (nodeC (reachC c.blocks c.l) c.side):=((okC_reach hE).up (by omega)).node _
 have hid:=(idc_reach (b:=c.blocks) (l:=c.l)).two c.side
 refine Node20_ok h0 (by omega) hE ?_
 generalize nodeC (reachC c.blocks c.l) c.side=n at on hid
 refine ref13_Read_ok (by omega) (ReceiveP_ok (N:=2000) (by decide) (by decide) on (by omega) hid ?_)
 have hr:((n.up=false∨n.state=0)->receiveN n b=(n,[]))∧(n.up=true->n.state≠0->(readP b n.session).2=16->receiveN n b=(n,[])) ∧
   (n.up=true->n.state≠0->(readP b n.session).2≠16->(readP b n.session).2≠0->receiveN n b=(n,[closeO n])):=by
  unfold receiveN
  refine⟨fun h=>by rw [if_pos h],fun h1 h2 h3=>?_,fun h1 h2 h3 h4=>?_⟩
  ·rw [if_neg (fun e=>e.elim (nf h1) h2),if_pos h3]
  ·rw [if_neg (fun e=>e.elim (nf h1) h2),if_neg h3,if_pos (.inl h4)]
 generalize (readP b n.session).2=e at hr ⊢
 generalize receiveN n b=r at hr ⊢
 refine cond_ok (fun he=>cond_ok (fun hu=>cond_ok (fun _=>k) (fun hs=>?_)) (fun hu=>?_)) (fun he=>?_)
 ·have hs:=ne_f hs
  exact junk_tail (N:=2000) (by decide) on (.inl ⟨hr.1 (.inr hs),.inr (.inl hs)⟩) k
 ·exact junk_tail (N:=2000) (by decide) on (.inl ⟨hr.1 (.inl hu),.inl hu⟩) k
 ·have he:=eq_f he
  refine junk_tail (N:=2000) (by decide) on ?_ k
  cases hu:n.up with
  | false=>exact .inl ⟨hr.1 (.inl hu),.inl rfl⟩
  | true=>
   by_cases hs:n.state=0
   ·exact .inl ⟨hr.1 (.inr hs),.inr (.inl hs)⟩
   by_cases h16:e=16
   ·exact .inl ⟨hr.2.1 hu hs h16,.inr (.inr h16)⟩
   ·exact .inr ⟨hr.2.2 hu hs h16 he,rfl,hs,h16⟩
end Gm
