/- Plain laws: what the functions of the layers 1 and 2 answer. -/
import Derived.Test.YtfjhdboapcckpaaGreatDoorGdNv
import Derived.Test.YtfjhdboapcckpaaGreatDoorGdT8
import Derived.KernelRfl
set_option maxRecDepth 100000
namespace Gm
open Go
theorem wStr_i64 {n:Nat} (h:n≤big):IntKind.i64.wrap ((n:Int)+1)=((n+1:Nat):Int):=by
 rw [wrap_i64 (by unfold big at h;omega)];omega
theorem wrap_succ {n:Nat} (h:n≤big):IntKind.i64.wrap ((n:Int)+1)=((n+1:Nat):Int):=wStr_i64 h
theorem getI_ok {α:Type} {xs:List α} {i:Nat} (h:i < xs.length):getI xs (i:Int)=some xs[i]:=by
 unfold getI
 rw [if_pos (by omega)]
 simp [h]
theorem take_succ {α:Type} {xs:List α} {i:Nat} (h:i < xs.length):xs.take (i+1)=xs.take i++[xs[i]]:=by
 simp
def fnvStep (n:Nat) (b:UInt8):Nat:=((n ^^^ b.toNat) * 16777619) % 4294967296
def fnv (s:Str):Nat:=s.foldl fnvStep 2166136261
theorem foldl_snoc {α β:Type} (f:α->β->α) (a:α) (s:List β) (b:β):(s++[b]).foldl f a=f (s.foldl f a) b:=by simp
theorem fnv_snoc (s:Str) (b:UInt8):fnv (s++[b])=fnvStep (fnv s) b:=foldl_snoc fnvStep _ s b
theorem fnv_lt (s:Str):fnv s < 4294967296:=by
 rcases snoc_cases s with rfl | ⟨t,b,rfl⟩
 ·simp [fnv]
 ·rw [fnv_snoc];unfold fnvStep;exact Nat.mod_lt _ (by decide)
theorem u8_lt (b:UInt8):b.toNat < 256:=b.toNat_lt
theorem check_Sum_ok {s:Str} (hs:wStr s) {K:Int->Prop} (h:K (fnv s)):q64.F s K:=by
 unfold q64.F
 refine loop_ok (I:=fun x:q64.L0=>∃ i:Nat,i≤s.length∧x=⟨s,fnv (s.take i),s.length,i⟩) (m:=fun x:q64.L0=>s.length - x.t7.toNat) ?_ ⟨0,by simp,rfl⟩
 rintro _ ⟨i,hi,rfl⟩ rec hrec
 unfold q64.b0
 dsimp only
 refine cond_ok (fun h1=>?_) (fun h1=>?_)
 ·have hlt:i < s.length:=by simpa using h1
  refine oget_ok (getI_ok hlt) ?_
  have e2:IntKind.u32.wrap ((s[i].toNat:Nat):Int)=((s[i].toNat:Nat):Int):=by
   have:=u8_lt s[i]
   rw [wrap_u32];omega
  rw [e2,ixor_nat (k:=.u32) rfl (fnv_lt _) (Nat.lt_of_lt_of_le (u8_lt _) (by decide)),wrap_succ (by unfold wStr at hs;omega)]
  have e3:IntKind.u32.wrap (((fnv (s.take i) ^^^ s[i].toNat:Nat):Int) * 16777619)=(fnv (s.take (i+1)):Int):=by
   rw [take_succ hlt,fnv_snoc]
   unfold fnvStep
   rw [wrap_u32]
   omega
  rw [e3]
  exact hrec _ ⟨i+1,hlt,rfl⟩ (by simp;omega)
 ·have hlt:i=s.length:=by have:¬ i < s.length:=by simpa using h1
                          omega
  subst hlt
  simpa using h
theorem ref02_Sum_ok {s:Str} (hs:wStr s) {K:Int->Prop} (h:K (fnv s)):q18.F s K:=by
 unfold q18.F
 refine loop_ok (I:=fun x:q18.L0=>∃ i:Nat,i≤s.length∧x=⟨s,fnv (s.take i),i⟩) (m:=fun x:q18.L0=>s.length - x.i.toNat) ?_ ⟨0,by simp,rfl⟩
 rintro _ ⟨i,hi,rfl⟩ rec hrec
 unfold q18.b0
 dsimp only
 refine cond_ok (fun h1=>?_) (fun h1=>?_)
 ·have hlt:i < s.length:=by simpa using h1
  refine oget_ok (getI_ok hlt) ?_
  refine cond_f rfl ?_
  have e2:IntKind.u64.wrap ((s[i].toNat:Nat):Int)=((s[i].toNat:Nat):Int):=by
   have:=u8_lt s[i]
   rw [wrap_u64];omega
  rw [e2,ixor_nat (k:=.u64) rfl (Nat.lt_trans (fnv_lt _) (by decide)) (Nat.lt_of_lt_of_le (u8_lt _) (by decide)),wrap_succ (by unfold wStr at hs;omega)]
  have e3:(IntKind.u64.wrap (((fnv (s.take i) ^^^ s[i].toNat:Nat):Int) * 16777619)).tmod 4294967296=(fnv (s.take (i+1)):Int):=by
   rw [take_succ hlt,fnv_snoc]
   unfold fnvStep
   have hx:fnv (s.take i) ^^^ s[i].toNat < 2 ^ 32:=Nat.xor_lt_two_pow (fnv_lt _) (Nat.lt_of_lt_of_le (u8_lt _) (by decide))
   generalize fnv (s.take i) ^^^ s[i].toNat=y at *
   rw [wrap_u64,Int.tmod_eq_emod_of_nonneg (by omega)]
   omega
  rw [e3]
  exact hrec _ ⟨i+1,hlt,rfl⟩ (by simp;omega)
 ·have hlt:i=s.length:=by have:¬ i < s.length:=by simpa using h1
                          omega
  subst hlt
  have:=fnv_lt s
  have e:IntKind.u32.wrap (fnv (s.take s.length):Int)=(fnv s:Int):=by
   rw [List.take_length,wrap_u32];omega
  rw [e]
  exact h
theorem ints_bytes (s:Str):bytesOfInts (intsOfBytes s)=s:=by
 induction s with
 | nil=>rfl
 | cons b s ih=>
  have:UInt8.ofNat ((b.toNat:Nat):Int).toNat=b:=by
   apply UInt8.toNat_inj.1;simp
  simp only [bytesOfInts,intsOfBytes,List.map_cons,List.map_map] at ih ⊢
  rw [ih,this]
theorem set_mid {α:Type} (a:List α) (x v:α) (t:List α):(a++x :: t).set a.length v=a++v :: t:=by
 rw [List.set_append_right _ _ (Nat.le_refl _)]
 simp
theorem num_put_ok {n k:Nat} (hk:k≤8) {K:Str->Prop} (h:K (be n k)):q59.F n k K:=by
 unfold q59.F
 refine gd_ok (by simp [room];omega) ?_
 refine loop_ok (I:=fun x:q59.L0=>∃ i:Nat,i≤k∧x=⟨n,k,List.replicate (k - i) 0++intsOfBytes (be n i),k,i⟩) (m:=fun x:q59.L0=>k - x.t11.toNat) ?_ ⟨0,by simp,by simp [be,intsOfBytes]⟩
 rintro _ ⟨i,hi,rfl⟩ rec hrec
 unfold q59.b0
 dsimp only
 refine cond_ok (fun h1=>?_) (fun h1=>?_)
 ·have hlt:i < k:=by simpa using h1
  have e1:IntKind.i64.wrap (8 * (i:Int))=((8 * i:Nat):Int):=by rw [wrap_i64 (by omega)];omega
  have e2:IntKind.i64.wrap (IntKind.i64.wrap ((k:Int) - 1) - i)=((k - 1 - i:Nat):Int):=by
   rw [wrap_i64 (x:=(k:Int) - 1) (by omega),wrap_i64 (by omega)];omega
  rw [e1,e2]
  refine gd_ok (by simp;omega) ?_
  refine gd_ok (by simp [intsOfBytes,be_length];omega) ?_
  rw [wrap_i64 (x:=(i:Int)+1) (by omega)]
  refine hrec _ ⟨i+1,hlt,?_⟩ (by simp;omega)
  congr 1
  rw [ishr_nat (k:=.u64) n (y:=8 * i) (by show 8 * i≤64;omega)]
  have e3:List.replicate (k - i) (0:Int)++intsOfBytes (be n i)=List.replicate (k - (i+1)) 0++(0:Int) :: intsOfBytes (be n i):=by
   rw [show k - i=k - (i+1)+1 by omega,List.replicate_succ',List.append_assoc]
   rfl
  have e4:=set_mid (List.replicate (k - (i+1)) (0:Int)) 0 (IntKind.u8.wrap ((n / 2 ^ (8 * i):Nat):Int)) (intsOfBytes (be n i))
  rw [List.length_replicate] at e4
  simp only [Int.toNat_natCast]
  rw [e3,show k - 1 - i=k - (i+1) by omega,e4,be_cons]
  congr 1
  rw [show (intsOfBytes (UInt8.ofNat (n / 256 ^ i) :: be n i))=((UInt8.ofNat (n / 256 ^ i)).toNat:Int) :: intsOfBytes (be n i) from rfl]
  congr 1
  rw [wrap_u8,toNat_ofNat,show(256:Nat) ^ i=2 ^ (8 * i) by rw [Nat.pow_mul]]
  omega
 ·have hlt:i=k:=by have:¬ i < k:=by simpa using h1
                   omega
  subst hlt
  rw [Nat.sub_self]
  rw [show List.replicate 0 (0:Int)++intsOfBytes (be n i)=intsOfBytes (be n i) from rfl,ints_bytes]
  exact h
theorem ref01_put_ok {n k:Nat} (hn:n < 2 ^ 64) (hk:k≤8) {K:Str->Prop} (h:K (be n k)):q15.F n k K:=by
 unfold q15.F
 refine loop_ok (I:=fun x:q15.L0=>∃ i:Nat,i≤k∧x=⟨((n / 256 ^ i:Nat):Int),k,be n i,i⟩) (m:=fun x:q15.L0=>k - x.i.toNat) ?_ ⟨0,by simp,by simp [be]⟩
 rintro _ ⟨i,hi,rfl⟩ rec hrec
 unfold q15.b0
 dsimp only
 refine cond_ok (fun h1=>?_) (fun h1=>?_)
 ·have hlt:i < k:=by simpa using h1
  refine cond_f rfl ?_
  refine gd_ok (by simp [bytesOfInts,be_length,fits];omega) ?_
  refine cond_f rfl ?_
  rw [wrap_i64 (x:=(i:Int)+1) (by omega)]
  refine hrec _ ⟨i+1,hlt,?_⟩ (by simp;omega)
  congr 1
  ·have:n / 256 ^ i < 2 ^ 64:=Nat.lt_of_le_of_lt (Nat.div_le_self _ _) hn
   rw [Nat.pow_succ,← Nat.div_div_eq_div_mul]
   generalize n / 256 ^ i=y at *
   rw [wrap_u64,Int.tdiv_eq_ediv_of_nonneg (by omega)]
   omega
  ·rw [be_cons]
   generalize n / 256 ^ i=y at *
   have:bytesOfInts [IntKind.u8.wrap ((y:Int).tmod 256)]=[UInt8.ofNat y]:=by
    simp only [bytesOfInts,List.map_cons,List.map_nil]
    congr 1
    apply UInt8.toNat_inj.1
    rw [toNat_ofNat,toNat_ofNat,wrap_u8,Int.tmod_eq_emod_of_nonneg (by omega)]
    omega
   rw [this]
   rfl
 ·have hlt:i=k:=by have:¬ i < k:=by simpa using h1
                   omega
  subst hlt
  exact h
theorem unbe_take {s:Str} {i:Nat} (h:i < s.length):unbe (s.take (i+1))=unbe (s.take i) * 256+s[i].toNat:=by
 rw [take_succ h,unbe_snoc]
theorem pow256 {i:Nat} (h:i≤7):256 ^ i≤72057594037927936:=by
 have:256 ^ i≤256 ^ 7:=Nat.pow_le_pow_right (by decide) h
 simpa using this
theorem ref01_get_ok {s:Str} {k:Nat} (hk:k≤8) {K:(Int×Bool)->Prop} (h:K (if s.length=k then(unbe s,true)else(0,false))):q29.F s k K:=by
 unfold q29.F
 refine cond_ok (fun h1=>?_) (fun h1=>?_)
 ·have hl:¬ s.length=k:=by
   rintro rfl
   simp at h1
  rw [if_neg hl] at h
  exact h
 ·have hl:s.length=k:=by
   have h2:(s.length:Int)=k:=by
    rcases Bool.eq_false_or_eq_true ((s.length:Int)==k) with h4 | h4
    ·exact eq_of_beq h4
    ·rw [bne,h4] at h1;cases h1
   omega
  rw [if_pos hl] at h
  subst hl
  refine loop_ok (I:=fun x:q29.L0=>∃ i:Nat,i≤s.length∧x=⟨s,s.length,unbe (s.take i),i⟩) (m:=fun x:q29.L0=>s.length - x.i.toNat) ?_ ⟨0,by simp,rfl⟩
  rintro _ ⟨i,hi,rfl⟩ rec hrec
  unfold q29.b0
  dsimp only
  refine cond_ok (fun h1=>?_) (fun h1=>?_)
  ·have hlt:i < s.length:=by simpa using h1
   refine oget_ok (getI_ok hlt) ?_
   rw [wrap_i64 (x:=(i:Int)+1) (by omega)]
   refine hrec _ ⟨i+1,hlt,?_⟩ (by simp;omega)
   congr 1
   have h2:=unbe_lt i (s.take i) (by simp;omega)
   have h3:=pow256 (i:=i) (by omega)
   have h4:=u8_lt s[i]
   rw [unbe_take hlt]
   generalize unbe (s.take i)=y at *
   generalize s[i].toNat=z at *
   simp only [wrap_u64]
   omega
  ·have hlt:i=s.length:=by have:¬ i < s.length:=by simpa using h1
                           omega
   subst hlt
   simpa using h
def fv:List Bool->Nat
 | []=>0
 | b :: r=>b.toNat+2 * fv r
def unf (b n:Nat):List Bool:=(List.range n).map fun i=>b / 2 ^ i % 2==1
theorem fv_snoc (l:List Bool) (b:Bool):fv (l++[b])=fv l+2 ^ l.length * b.toNat:=by
 induction l with
 | nil=>simp [fv]
 | cons a l ih=>
  simp only [List.cons_append,fv,ih,List.length_cons,Nat.pow_succ]
  rw [Nat.mul_add,← Nat.mul_assoc,Nat.mul_comm 2 (2 ^ l.length)]
  omega
theorem fv_lt (l:List Bool):fv l < 2 ^ l.length:=by
 induction l with
 | nil=>simp [fv]
 | cons a l ih=>
  simp only [fv,List.length_cons,Nat.pow_succ]
  cases a <;> simp <;> omega
theorem unf_length (b n:Nat):(unf b n).length=n:=by simp [unf]
theorem fv_unf:∀ (n b:Nat),b < 2 ^ n->fv (unf b n)=b
 | 0,b,h=>by simp at h;subst h;rfl
 | n+1,b,h=>by
  have ih:=fv_unf n (b / 2) (by rw [Nat.pow_succ] at h;omega)
  have e:unf b (n+1)=(b % 2==1) :: unf (b / 2) n:=by
   unfold unf
   rw [List.range_succ_eq_map,List.map_cons,List.map_map]
   congr 1
   ·simp
   ·congr 1
    funext i
    simp only [Function.comp]
    rw [Nat.succ_eq_add_one,Nat.pow_succ,Nat.mul_comm (2 ^ i) 2,← Nat.div_div_eq_div_mul]
  rw [e,fv,ih]
  rcases Nat.mod_two_eq_zero_or_one b with h2 | h2 <;> rw [h2] <;> simp <;> omega
theorem pow2_le {i:Nat} (h:i≤7):2 ^ i≤128:=by
 have:2 ^ i≤2 ^ 7:=Nat.pow_le_pow_right (by decide) h
 simpa using this
theorem num_Flags_ok {l:List Bool} {K:Int->Prop} (h:K (fv (l.take 8))):q61.F l K:=by
 unfold q61.F
 have em:minI (l.length:Int) 8=((min l.length 8:Nat):Int):=by
  unfold minI;split <;> omega
 rw [em]
 refine gd_ok (by simp;omega) ?_
 have es:sub l 0 (Int.toNat ((min l.length 8:Nat):Int))=l.take 8:=by
  simp only [sub,List.drop_zero,Int.toNat_natCast]
  rw [Nat.min_comm]
  simp
 rw [es]
 have hl8:(l.take 8).length≤8:=by simp;omega
 generalize l.take 8=l at *
 refine loop_ok (I:=fun x:q61.L0=>∃ i:Nat,i≤l.length∧x=⟨fv (l.take i),l,l.length,i⟩) (m:=fun x:q61.L0=>l.length - x.t11.toNat) ?_ ⟨0,by simp,rfl⟩
 rintro _ ⟨i,hi,rfl⟩ rec hrec
 unfold q61.b0
 dsimp only
 refine cond_ok (fun h1=>?_) (fun h1=>?_)
 ·have hlt:i < l.length:=by simpa using h1
  refine oget_ok (getI_ok hlt) ?_
  have h2:=fv_lt (l.take i)
  rw [show (l.take i).length=i by simp;omega] at h2
  have h3:=pow2_le (i:=i) (by omega)
  have e0:fv (l.take (i+1))=fv (l.take i)+2 ^ i * (l[i]).toNat:=by
   rw [take_succ hlt,fv_snoc,show(l.take i).length=i by simp;omega]
  refine cond_ok (fun h4=>?_) (fun h4=>?_)
  ·refine gd_ok (by simp) ?_
   rw [wrap_i64 (x:=(i:Int)+1) (by omega)]
   refine hrec _ ⟨i+1,hlt,?_⟩ (by simp;omega)
   congr 1
   have e1:=ishl_nat (k:=.u8) rfl 1 (y:=i) (by show i≤8;omega)
   rw [show ((1:Nat):Int)=1 from rfl,Nat.one_mul] at e1
   rw [e1,e0,h4]
   have e2:2 ^ i % 2 ^ IntKind.u8.bits=2 ^ i:=Nat.mod_eq_of_lt (by show 2 ^ i < 256;omega)
   rw [e2,ior_nat (k:=.u8) rfl (by show _ < 256;omega) (by show _ < 256;omega),Nat.or_comm]
   have e3:=Nat.two_pow_add_eq_or_of_lt h2 1
   rw [Nat.mul_one] at e3
   rw [← e3]
   simp;omega
  ·rw [wrap_i64 (x:=(i:Int)+1) (by omega)]
   refine hrec _ ⟨i+1,hlt,?_⟩ (by simp;omega)
   congr 1
   rw [e0,h4];simp
 ·have hlt:i=l.length:=by have:¬ i < l.length:=by simpa using h1
                          omega
  subst hlt
  simpa using h
theorem ref01_Flags_ok {l:List Bool} {K:Int->Prop} (h:K (fv (l.take 8))):q14.F l K:=by
 unfold q14.F
 refine loop_ok (I:=fun x:q14.L0=>∃ i:Nat,i≤l.length∧i≤8∧x=⟨l,fv (l.take i),((2 ^ i % 256:Nat):Int),i⟩) (m:=fun x:q14.L0=>l.length - x.i.toNat) ?_ ⟨0,by simp,by simp,rfl⟩
 rintro _ ⟨i,hi,hi8,rfl⟩ rec hrec
 unfold q14.b0
 dsimp only
 have fin:(i=l.length∨i=8)->K (fv (l.take i)):=by
  intro h2
  have:l.take i=l.take 8:=by
   rcases h2 with h2 | h2
   ·subst h2;rw [List.take_length,List.take_of_length_le hi8]
   ·rw [h2]
  rw [this];exact h
 refine cond_ok (fun h1=>?_) (fun h1=>?_)
 ·have hlt:i < l.length:=by simpa using h1
  refine cond_ok (fun h0=>?_) (fun h0=>?_)
  ·have h8:i < 8:=by
    have:(i:Int) < 8:=of_decide_eq_true h0
    omega
   refine oget_ok (getI_ok hlt) ?_
   have h2:=fv_lt (l.take i)
   rw [show (l.take i).length=i by simp;omega] at h2
   have h3:=pow2_le (i:=i) (by omega)
   have e0:fv (l.take (i+1))=fv (l.take i)+2 ^ i * (l[i]).toNat:=by
    rw [take_succ hlt,fv_snoc,show(l.take i).length=i by simp;omega]
   have ep:IntKind.u8.wrap (((2 ^ i % 256:Nat):Int) * 2)=((2 ^ (i+1) % 256:Nat):Int):=by
    rw [wrap_u8,Nat.pow_succ];omega
   have ew:IntKind.i64.wrap ((i:Int)+1)=((i+1:Nat):Int):=by rw [wrap_i64 (by omega)];omega
   rw [ep,ew]
   refine cond_ok (fun h4=>?_) (fun h4=>?_)
   ·refine hrec _ ⟨i+1,hlt,h8,?_⟩ (by simp;omega)
    congr 1
    rw [e0,h4,wrap_u8]
    have h5:fv (l.take i)+2 ^ i < 256:=by omega
    have h6:2 ^ i % 256=2 ^ i:=Nat.mod_eq_of_lt (by omega)
    rw [h6]
    simp only [Bool.toNat_true,Nat.mul_one]
    clear e0 ep ew h fin hrec
    generalize 2 ^ i=y at *
    omega
   ·refine hrec _ ⟨i+1,hlt,h8,?_⟩ (by simp;omega)
    congr 1
    rw [e0,h4];simp
  ·have:¬ ((i:Int) < 8):=of_decide_eq_false h0
   exact fin (.inr (by omega))
 ·have hlt:i=l.length:=by have:¬ i < l.length:=by simpa using h1
                          omega
  exact fin (.inl hlt)
theorem unf_take (b i:Nat):unf b (i+1)=unf b i++[b / 2 ^ i % 2==1]:=by
 unfold unf
 rw [List.range_succ,List.map_append]
 rfl
def unflag (b:Nat) (n:Int):List Bool×Bool:=if 0≤n∧n≤8∧b / 2 ^ n.toNat=0 then(unf b n.toNat,true)else([],false)
theorem ref01_Unflag_ok {b:Nat} (hb:b < 256) {n:Int} {K:(List Bool×Bool)->Prop} (h:K (unflag b n)):q28.F b n K:=by
 unfold q28.F
 unfold unflag at h
 refine cond_ok (fun h1=>?_) (fun h1=>?_)
 ·have h1:n < 0:=of_decide_eq_true h1
  rw [if_neg (by omega)] at h
  exact h
 have h1:¬ n < 0:=of_decide_eq_false h1
 refine cond_ok (fun h2=>?_) (fun h2=>?_)
 ·have h2:n > 8:=of_decide_eq_true h2
  rw [if_neg (by omega)] at h
  exact h
 have h2:¬ n > 8:=of_decide_eq_false h2
 obtain ⟨k,rfl⟩:∃ k:Nat,n=k:=⟨n.toNat,by omega⟩
 simp only [Int.toNat_natCast] at h ⊢
 refine loop_ok (I:=fun x:q28.L0=>∃ i:Nat,i≤k∧x=⟨((b / 2 ^ i:Nat):Int),k,unf b i,i⟩) (m:=fun x:q28.L0=>k - x.i.toNat) ?_ ⟨0,by simp,by simp [unf]⟩
 rintro _ ⟨i,hi,rfl⟩ rec hrec
 unfold q28.b0
 dsimp only
 refine cond_ok (fun h4=>?_) (fun h4=>?_)
 ·have hlt:i < k:=by simpa using h4
  refine cond_f rfl ?_
  refine gd_ok (by simp [unf,room];omega) ?_
  refine cond_f rfl ?_
  rw [wrap_i64 (x:=(i:Int)+1) (by omega)]
  have hq:b / 2 ^ i < 256:=Nat.lt_of_le_of_lt (Nat.div_le_self _ _) hb
  refine hrec _ ⟨i+1,hlt,?_⟩ (by simp;omega)
  congr 1
  ·rw [Nat.pow_succ,← Nat.div_div_eq_div_mul]
   clear hrec
   generalize b / 2 ^ i=y at *
   rw [wrap_u8,Int.tdiv_eq_ediv_of_nonneg (by omega)]
   omega
  ·rw [unf_take b i]
   clear hrec
   generalize b / 2 ^ i=y at *
   rw [Int.tmod_eq_emod_of_nonneg (by omega)]
   congr 2
   rcases Nat.mod_two_eq_zero_or_one y with h5 | h5 <;> rw [h5]
   ·rw [show (y:Int) % 2=0 by omega];rfl
   ·rw [show (y:Int) % 2=1 by omega];rfl
 ·have hlt:i=k:=by have:¬ i < k:=by simpa using h4
                   omega
  subst hlt
  refine cond_ok (fun h5=>?_) (fun h5=>?_)
  ·have h5:((b / 2 ^ i:Nat):Int) > 0:=of_decide_eq_true h5
   rw [if_neg (by omega)] at h
   exact h
  ·have h5:¬ ((b / 2 ^ i:Nat):Int) > 0:=of_decide_eq_false h5
   have h6:b / 2 ^ i=0:=by
    revert h5
    generalize b / 2 ^ i=y
    intro h5
    omega
   rw [if_pos ⟨by omega,by omega,h6⟩] at h
   exact h
end Gm
namespace Gm
open Go
theorem num_Put32_ok {n:Nat} (hn:n < 2 ^ 32) {K:Str->Prop} (h:K (be n 4)):q62.F n K:=by
 unfold q62.F q62.FV
 rw [show IntKind.u64.wrap (n:Int)=(n:Int) by rw [wrap_u64];omega]
 exact num_put_ok (k:=4) (by decide) h
theorem ref01_Put32_ok {n:Nat} (hn:n < 2 ^ 32) {K:Str->Prop} (h:K (be n 4)):q19.F n K:=by
 unfold q19.F q19.FV
 rw [show IntKind.u64.wrap (n:Int)=(n:Int) by rw [wrap_u64];omega]
 exact ref01_put_ok (k:=4) (by omega) (by decide) h
theorem num_Put64_ok {n:Nat} {K:Str->Prop} (h:K (be n 8)):q60.F n K:=num_put_ok (k:=8) (by decide) h
theorem ref01_Put64_ok {n:Nat} (hn:n < 2 ^ 64) {K:Str->Prop} (h:K (be n 8)):q16.F n K:=ref01_put_ok (k:=8) hn (by decide) h
def getN (s:Str) (k:Nat):Int×Bool:=if s.length=k then((unbe s:Int),true)else(0,false)
theorem bne_nat {a b:Nat} (h:((a:Int) != (b:Int))=true):a≠b:=by
 rintro rfl;simp at h
theorem bne_nat' {a b:Nat} (h:((a:Int) != (b:Int))=false):a=b:=by
 rcases Bool.eq_false_or_eq_true ((a:Int)==b) with h4 | h4
 ·have:=eq_of_beq h4;omega
 ·rw [bne,h4] at h;cases h
theorem ref01_Get32_ok {s:Str} {K:(Int×Bool)->Prop} (h:K (getN s 4)):q35.F s K:=by
 unfold q35.F q35.FV
 refine ref01_get_ok (k:=4) (by decide) ?_
 unfold getN at h
 by_cases h2:s.length=4
 ·rw [if_pos h2] at h ⊢
  have:=unbe_lt 4 s h2
  dsimp only
  rw [show IntKind.u32.wrap (unbe s:Int)=(unbe s:Int) by rw [wrap_u32];omega]
  exact h
 ·rw [if_neg h2] at h ⊢;exact h
theorem ref01_Get64_ok {s:Str} {K:(Int×Bool)->Prop} (h:K (getN s 8)):q30.F s K:=by
 unfold q30.F q30.FV
 refine ref01_get_ok (k:=8) (by decide) ?_
 unfold getN at h
 exact h
theorem fits_ok {n:Nat} (h:n≤big+1000):fits n=true:=by
 unfold fits
 have:n≤9223372036854775807:=by unfold big at h;omega
 exact Nat.ble_eq_true_of_le this
def sealV (s:Str):Str:=s++be (fnv s) 4
theorem check_Seal_ok {s:Str} (hs:wStr s) {K:Str->Prop} (h:K (sealV s)):q65.F s K:=by
 unfold q65.F q65.FV
 refine check_Sum_ok hs (num_Put32_ok (fnv_lt s) (gd_ok (fits_ok ?_) h))
 rw [be_length];unfold wStr at hs;omega
theorem ref02_Seal_ok {s:Str} (hs:wStr s) {K:Str->Prop} (h:K (sealV s)):q20.F s K:=by
 unfold q20.F q20.FV
 refine ref02_Sum_ok hs (ref01_Put32_ok (fnv_lt s) (gd_ok (fits_ok ?_) h))
 rw [be_length];unfold wStr at hs;omega
theorem sealV_length (s:Str):(sealV s).length=s.length+4:=by simp [sealV,be_length]
def openV (s:Str):Str×Int:=
 if s.length < 4 then([],2)
 else if sealV (s.take (s.length - 4))=s then(s.take (s.length - 4),0)else([],3)
theorem sub_take {s:Str} {n:Nat}:sub s 0 n=s.take n:=by simp [sub]
theorem sub_drop {s:Str} {n:Nat}:sub s n s.length=s.drop n:=by simp [sub]
theorem ref02_Open_ok {s:Str} (hs:wStr s) {K:(Str×Int)->Prop} (h:K (openV s)):q27.F s K:=by
 unfold q27.F q27.FV
 have hb:s.length≤140737488351232:=hs
 rw [wrap_i64 (x:=(s.length:Int) - 4) (by omega)]
 unfold openV at h
 refine cond_ok (fun h1=>?_) (fun h1=>?_)
 ·have h1:(s.length:Int) < 4:=of_decide_eq_true h1
  rw [if_pos (by omega)] at h
  exact h
 ·have h1:¬ (s.length:Int) < 4:=of_decide_eq_false h1
  rw [if_neg (by omega)] at h
  have g1:(decide (0≤(s.length:Int) - 4)&&decide ((s.length:Int) - 4≤(s.length:Int)))=true:=by
   simp;omega
  have e1:((s.length:Int) - 4).toNat=s.length - 4:=by omega
  rw [e1,sub_take]
  refine gd_ok g1 (ref02_Seal_ok ?_ ?_)
  ·unfold wStr;simp;omega
  ·refine cond_ok (fun h2=>?_) (fun h2=>?_)
   ·rw [if_neg (by simpa using h2)] at h;exact h
   ·rw [if_pos (by simpa using h2)] at h;exact h
theorem openV_seal (s:Str):openV (sealV s)=(s,0):=by
 unfold openV
 rw [sealV_length,if_neg (by omega)]
 have:(sealV s).take (s.length+4 - 4)=s:=by simp [sealV]
 rw [this,if_pos rfl]
end Gm

set_option maxRecDepth 100000
namespace Gm
open Go
theorem wStr_of {s:Str} (h:s.length≤1000000):wStr s:=by unfold wStr big;omega
end Gm

namespace Gm
open Go
end Gm

set_option maxRecDepth 100000
namespace Gm
open Go
theorem wrap_lt {n m:Nat} (h:n < m) (hm:m≤big):IntKind.i64.wrap ((n:Int)+1)=((n+1:Nat):Int):=wrap_succ (by omega)
theorem lt_of_dec {a b:Nat} (h:decide ((a:Int) < (b:Int))=true):a < b:=by simpa using h
theorem le_of_dec {a b:Nat} (h:decide ((a:Int) < (b:Int))=false) (hab:a≤b):a=b:=by
 have:¬ a < b:=by simpa using h
 omega
end Gm

set_option maxRecDepth 100000
namespace Gm
open Go
theorem fit_ok {n:Nat} (h:n≤70368744177664):decide (n≤room)=true:=decide_eq_true h
def armV (d:Disk) (n:Int):Disk:=⟨d.sure,d.cache,maxI2 n 0,d.dead⟩
def crashV (d:Disk):Disk:=⟨d.sure,d.cache,0,true⟩
def settleV (sure:List Str) (ws:List Write):List Str:=ws.foldl (fun s w=>s.set w.sector.toNat w.data) sure
def keptW:List Write->List Bool->List Write
 | w :: ws,k :: ks=>if k=true then w :: keptW ws ks else keptW ws ks
 | _,_=>[]
def reviveV (d:Disk) (keeps:List Bool):Disk:=⟨settleV d.sure (keptW d.cache keeps),[],0,false⟩
def InR (n:Nat) (ws:List Write):Prop:=∀ w∈ws,0≤w.sector∧w.sector < n
theorem settleV_length:∀ (ws:List Write) (s:List Str),(settleV s ws).length=s.length
 | [],_=>rfl
 | w :: ws,s=>by
  unfold settleV
  rw [List.foldl_cons]
  have:=settleV_length ws (s.set w.sector.toNat w.data)
  unfold settleV at this
  rw [this];simp
theorem kept_sub:∀ (ws:List Write) (ks:List Bool),∀ w∈keptW ws ks,w∈ws
 | [],_,w,h=>by simp [keptW] at h
 | a :: ws,[],w,h=>by simp [keptW] at h
 | a :: ws,k :: ks,w,h=>by
  unfold keptW at h
  split at h
  ·rcases List.mem_cons.1 h with rfl | h
   ·simp
   ·exact List.mem_cons_of_mem _ (kept_sub ws ks w h)
  ·exact List.mem_cons_of_mem _ (kept_sub ws ks w h)
theorem kept_length:∀ (ws:List Write) (ks:List Bool),(keptW ws ks).length≤ws.length
 | [],_=>by simp [keptW]
 | a :: ws,[]=>by simp [keptW]
 | a :: ws,k :: ks=>by
  have:=kept_length ws ks
  unfold keptW
  split <;> simp <;> omega
theorem drop_cons {α:Type} {xs:List α} {i:Nat} (h:i < xs.length):xs.drop i=xs[i] :: xs.drop (i+1):=by simp
theorem disk_settle_ok {sure:List Str} {ws:List Write} (h1:sure.length≤1000000) (h2:ws.length≤1000000) (hr:InR sure.length ws) {K:List Str->Prop} (h:K (settleV sure ws)):q74.F sure ws K:=by
 unfold q74.F
 refine gd_ok (fit_ok (by omega)) ?_
 refine loop_ok (I:=fun x:q74.L0=>∃ (i:Nat) (s:List Str),i≤ws.length∧s.length=sure.length∧settleV s (ws.drop i)=settleV sure ws∧x=⟨s,ws,ws.length,i⟩) (m:=fun x:q74.L0=>ws.length - x.t11.toNat) ?_ ⟨0,sure,by simp,rfl,by simp,rfl⟩
 rintro _ ⟨i,s,hi,hs,he,rfl⟩ rec hrec
 unfold q74.b0
 dsimp only
 refine cond_ok (fun h4=>?_) (fun h4=>?_)
 ·have hlt:=lt_of_dec h4
  have hw:=hr _ (List.getElem_mem hlt)
  refine oget_ok (getI_ok hlt) (gd_ok (by simp;omega) ?_)
  rw [wrap_succ (by unfold big;omega)]
  refine hrec _ ⟨i+1,_,hlt,by simp [hs],?_,rfl⟩ (by simp;omega)
  rw [← he,drop_cons hlt]
  rfl
 ·have e:=le_of_dec h4 hi
  subst e
  rw [List.drop_length] at he
  rw [← he] at h
  exact h
theorem ref04_Revive_ok {d:Disk} {keeps:List Bool} (h1:d.sure.length≤1000000) (h2:d.cache.length≤1000000) (hr:InR d.sure.length d.cache) {K:Disk->Prop} (h:K (reviveV d keeps)):q24.F d keeps K:=by
 unfold q24.F
 refine gd_ok (fit_ok (by omega)) ?_
 refine loop_ok (I:=fun x:q24.L0=>∃ (i:Nat) (s:List Str),i≤d.cache.length∧i≤keeps.length∧s.length=d.sure.length∧settleV s (keptW (d.cache.drop i) (keeps.drop i))=settleV d.sure (keptW d.cache keeps)∧x=⟨keeps,s,i,d,⟨[],[],0,false⟩⟩) (m:=fun x:q24.L0=>d.cache.length - x.i.toNat) ?_ ⟨0,d.sure,by simp,by simp,rfl,by simp,rfl⟩
 rintro _ ⟨i,s,hi,hk,hs,he,rfl⟩ rec hrec
 unfold q24.b0
 dsimp only
 have fin:keptW (d.cache.drop i) (keeps.drop i)=[]->K ⟨s,[],0,false⟩:=by
  intro e
  rw [e] at he
  unfold reviveV at h
  rw [← he] at h
  exact h
 refine cond_ok (fun h4=>?_) (fun h4=>?_)
 ·have hlt:=lt_of_dec h4
  refine cond_ok (fun h5=>?_) (fun h5=>?_)
  ·have hlk:=lt_of_dec h5
   have hw:=hr _ (List.getElem_mem hlt)
   rw [wrap_succ (by unfold big;omega)]
   refine oget_ok (getI_ok hlk) (cond_ok (fun h6=>?_) (fun h6=>?_))
   ·refine oget_ok (getI_ok hlt) (oget_ok (getI_ok hlt) (gd_ok (by simp;omega) ?_))
    refine hrec _ ⟨i+1,_,hlt,hlk,by simp [hs],?_,rfl⟩ (by simp;omega)
    rw [← he,drop_cons hlt,drop_cons hlk,keptW,if_pos h6]
    rfl
   ·refine hrec _ ⟨i+1,_,hlt,hlk,hs,?_,rfl⟩ (by simp;omega)
    rw [← he,drop_cons hlt,drop_cons hlk,keptW,if_neg (by simp [h6])]
  ·have e:=le_of_dec h5 hk
   subst e
   refine fin ?_
   rw [List.drop_length]
   cases d.cache.drop keeps.length <;> rfl
 ·have e:=le_of_dec h4 hi
  refine fin ?_
  rw [e,List.drop_length]
  rfl
def writeV (d:Disk) (i:Int) (data:Str):Disk×Int:=
 if d.dead=true then(d,6)else if ¬ (0≤i∧i < d.sure.length)then(d,4)else if data.length > 64 then(d,5)
 else if d.fuse=0 then(⟨d.sure,d.cache++[⟨i,data⟩],0,false⟩,0)else if d.fuse=1 then(crashV d,6)else(⟨d.sure,d.cache++[⟨i,data⟩],d.fuse - 1,false⟩,0)
def flushV (d:Disk):Disk×Int:=
 if d.dead=true then(d,6)else if d.fuse=0 then(⟨settleV d.sure d.cache,[],0,false⟩,0)else if d.fuse=1 then(crashV d,6)else(⟨settleV d.sure d.cache,[],d.fuse - 1,false⟩,0)
theorem fuse_wrap {n:Int} (h:inK .i64 n) (h0:0≤n):IntKind.i64.wrap (n - 1)=n - 1:=by
 have h:-9223372036854775808≤n∧n≤9223372036854775807:=h
 exact wrap_i64 (by omega)
theorem disk_there_ok {d:Disk} {i:Int} {K:Bool->Prop} (h:K (decide (0≤i∧i < d.sure.length))):q70.F d i K:=by
 unfold q70.F
 refine cond_ok (fun h1=>?_) (fun h1=>?_)
 ·have h1:i≥0:=of_decide_eq_true h1
  rw [show decide (0≤i∧i < (d.sure.length:Int))=decide (i < (d.sure.length:Int)) by simp;omega] at h
  exact h
 ·have h1:¬ i≥0:=of_decide_eq_false h1
  rw [show decide (0≤i∧i < (d.sure.length:Int))=false by simp;omega] at h
  exact h
theorem disk_Write_ok {d:Disk} {i:Int} {data:Str} (hc:d.cache.length≤1000000) (hf:inK .i64 d.fuse) (h0:0≤d.fuse) {K:(Disk×Int)->Prop} (h:K (writeV d i data)):q73.F d i data K:=by
 unfold q73.F q73.FV
 unfold writeV at h
 refine cond_ok (fun h1=>?_) (fun h1=>?_)
 ·rw [if_pos h1] at h;exact h
 rw [if_neg (by simp [h1])] at h
 refine disk_there_ok (cond_ok (fun h2=>?_) (fun h2=>?_))
 ·have h2:¬ (0≤i∧i < (d.sure.length:Int)):=by
   intro hh
   rw [decide_eq_true hh] at h2
   cases h2
  rw [if_pos h2] at h;exact h
 have h2:0≤i∧i < (d.sure.length:Int):=by simpa using h2
 rw [if_neg (fun hn=>hn h2)] at h
 unfold q71.F
 refine cond_ok (fun h3=>?_) (fun h3=>?_)
 ·have h3:(data.length:Int) > 64:=of_decide_eq_true h3
  rw [if_pos (by omega)] at h;exact h
 have h3:¬ (data.length:Int) > 64:=of_decide_eq_false h3
 rw [if_neg (by omega)] at h
 have es:sub d.cache 0 (Int.toNat (d.cache.length:Int))=d.cache:=by simp [sub]
 refine cond_ok (fun h4=>?_) (fun h4=>?_)
 ·have h4:d.fuse=0:=by simpa using h4
  rw [if_pos h4] at h
  refine gd_ok (fit_ok (by omega)) (gd_ok (by simp) (gd_ok (fit_ok (by rw [es];simp;omega)) ?_))
  rw [es,h4,h1]
  exact h
 have h4:d.fuse≠0:=by simpa using h4
 rw [if_neg h4] at h
 refine cond_ok (fun h5=>?_) (fun h5=>?_)
 ·have h5:d.fuse=1:=by simpa using h5
  rw [if_pos h5] at h
  exact h
 have h5:d.fuse≠1:=by simpa using h5
 rw [if_neg h5] at h
 refine gd_ok (fit_ok (by omega)) (gd_ok (by simp) (gd_ok (fit_ok (by rw [es];simp;omega)) ?_))
 rw [es,fuse_wrap hf h0,h1]
 exact h
theorem disk_Flush_ok {d:Disk} (h1:d.sure.length≤1000000) (hc:d.cache.length≤1000000) (hr:InR d.sure.length d.cache) (hf:inK .i64 d.fuse) (h0:0≤d.fuse) {K:(Disk×Int)->Prop} (h:K (flushV d)):q75.F d K:=by
 unfold q75.F q75.FV
 unfold flushV at h
 refine cond_ok (fun h2=>?_) (fun h2=>?_)
 ·rw [if_pos h2] at h;exact h
 rw [if_neg (by simp [h2])] at h
 refine cond_ok (fun h4=>?_) (fun h4=>?_)
 ·have h4:d.fuse=0:=by simpa using h4
  rw [if_pos h4] at h
  refine disk_settle_ok h1 hc hr ?_
  rw [h4,h2]
  exact h
 have h4:d.fuse≠0:=by simpa using h4
 rw [if_neg h4] at h
 refine cond_ok (fun h5=>?_) (fun h5=>?_)
 ·have h5:d.fuse=1:=by simpa using h5
  rw [if_pos h5] at h
  exact h
 have h5:d.fuse≠1:=by simpa using h5
 rw [if_neg h5] at h
 refine disk_settle_ok h1 hc hr ?_
 rw [fuse_wrap hf h0,h2]
 exact h
end Gm

set_option maxRecDepth 100000
namespace Gm
open Go
theorem in0:inK .i64 0:=⟨by decide,by decide⟩
theorem ref04_Arm_ok {d:Disk} {n:Int} {K:Disk->Prop} (h:K (armV d n)):q185.F d n K:=h
theorem settle_get:∀ (ws:List Write) (s:List Str) (i:Nat) (v:Str),(settleV s ws)[i]? = some v->s[i]? = some v∨∃ w∈ws,w.sector.toNat=i∧w.data=v
 | [],s,i,v,h=>.inl h
 | w :: ws,s,i,v,h=>by
  have h:(settleV (s.set w.sector.toNat w.data) ws)[i]? = some v:=h
  rcases settle_get ws _ i v h with h | ⟨w',hw,h1,h2⟩
  ·by_cases e:w.sector.toNat=i
   ·by_cases hl:i < s.length
    ·rw [e,List.getElem?_set_self hl] at h
     exact .inr ⟨w,by simp,e,Option.some.inj h⟩
    ·rw [List.getElem?_eq_none (by simp;omega)] at h
     cases h
   ·rw [List.getElem?_set_ne e] at h
    exact .inl h
  ·exact .inr ⟨w',List.mem_cons_of_mem _ hw,h1,h2⟩
theorem settle_holds:∀ (ws:List Write) (s:List Str) (i:Nat) (hi:i < s.length),InR s.length ws->(settleV s ws)[i]? = some (holds s[i] ws i)
 | [],s,i,hi,_=>by simp [settleV,holds,hi]
 | w :: ws,s,i,hi,hr=>by
  have hw:=hr w (by simp)
  have ih:=settle_holds ws (s.set w.sector.toNat w.data) i (by simpa using hi) (fun w' h=>by
   have:=hr w' (List.mem_cons_of_mem _ h)
   simpa using this)
  have e:settleV s (w :: ws)=settleV (s.set w.sector.toNat w.data) ws:=rfl
  rw [e,ih]
  unfold holds
  rw [List.foldl_cons]
  congr 2
  rw [List.getElem_set]
  by_cases h:w.sector=(i:Int)
  ·rw [if_pos h,if_pos (by omega)]
  ·rw [if_neg h,if_neg (by omega)]
end Gm

set_option maxRecDepth 100000
namespace Gm
open Go
def maskR (m blocks:Int):Bool:=decide (1≤blocks∧blocks≤32∧m < 2 ^ blocks.toNat)
theorem iandn_zero {m b:Nat} (hm:m < 2 ^ 32):(iandn .u32 (m:Int) ((2 ^ b - 1:Nat):Int)==0)=decide (m < 2 ^ b):=by
 unfold iandn
 rw [ofInt_nat,ofInt_nat,wrap_nat rfl]
 show((((BitVec.ofNat 32 m &&& ~~~BitVec.ofNat 32 (2 ^ b - 1)).toNat % 2 ^ 32:Nat):Int)==0)=_
 rw [Nat.mod_eq_of_lt (BitVec.isLt _)]
 have bit:∀ i,(BitVec.ofNat 32 m &&& ~~~BitVec.ofNat 32 (2 ^ b - 1)).toNat.testBit i=(m.testBit i&&(decide (i < 32) && !decide (i < b))):=by
  intro i
  rw [BitVec.testBit_toNat,BitVec.getLsbD_and,BitVec.getLsbD_not,BitVec.getLsbD_ofNat,BitVec.getLsbD_ofNat,Nat.testBit_two_pow_sub_one]
  by_cases hi:i < 32 <;> simp [hi]
 rw [Bool.eq_iff_iff]
 simp only [beq_iff_eq,decide_eq_true_eq]
 constructor
 ·intro h
  have h0:(BitVec.ofNat 32 m &&& ~~~BitVec.ofNat 32 (2 ^ b - 1)).toNat=0:=by omega
  apply Nat.lt_pow_two_of_testBit
  intro i hi
  have:=bit i
  rw [h0,Nat.zero_testBit] at this
  by_cases h32:i < 32
  ·simpa [h32,show ¬ i < b by omega] using this.symm
  ·exact Nat.testBit_lt_two_pow (Nat.lt_of_lt_of_le hm (Nat.pow_le_pow_right (by decide) (by omega)))
 ·intro h
  have h0:(BitVec.ofNat 32 m &&& ~~~BitVec.ofNat 32 (2 ^ b - 1)).toNat=0:=by
   apply Nat.eq_of_testBit_eq
   intro i
   rw [bit,Nat.zero_testBit]
   by_cases hb:i < b
   ·simp [hb]
   ·rw [Nat.testBit_lt_two_pow (Nat.lt_of_lt_of_le h (Nat.pow_le_pow_right (by decide) (by omega)))]
    simp
  omega
theorem mask_there_ok {i:Int} {K:Bool->Prop} (h:K (decide (0≤i∧i < 32))):q52.F i K:=by
 unfold q52.F
 refine cond_ok (fun h1=>?_) (fun h1=>?_)
 ·have h1:i≥0:=of_decide_eq_true h1
  rw [show decide (0≤i∧i < 32)=decide (i < 32) by simp;omega] at h
  exact h
 ·have h1:¬ i≥0:=of_decide_eq_false h1
  rw [show decide (0≤i∧i < 32)=false by simp;omega] at h
  exact h
theorem mask_All_ok {b:Nat} (h1:1≤b) (h2:b≤32) {K:Int->Prop} (h:K ((2 ^ b - 1:Nat):Int)):q53.F b K:=by
 unfold q53.F q53.FV
 rw [wrap_i64 (x:=(b:Int) - 1) (by omega)]
 refine mask_there_ok ?_
 rw [show decide (0≤(b:Int) - 1∧(b:Int) - 1 < 32)=true by simp;omega]
 refine cond_f rfl (gd_ok (by simp) ?_)
 have e:=ishl_nat (k:=.u32) rfl 1 (y:=b) h2
 rw [show ((1:Nat):Int)=1 from rfl,Nat.one_mul] at e
 rw [e]
 have e2:IntKind.u32.wrap (((2 ^ b % 2 ^ IntKind.u32.bits:Nat):Int) - 1)=((2 ^ b - 1:Nat):Int):=by
  show IntKind.u32.wrap (((2 ^ b % 4294967296:Nat):Int) - 1)=_
  have hp:1≤2 ^ b:=Nat.one_le_two_pow
  rw [wrap_u32]
  by_cases hb:b=32
  ·subst hb;rfl
  ·have:2 ^ b≤2 ^ 31:=Nat.pow_le_pow_right (by decide) (by omega)
   omega
 rw [e2]
 exact h
theorem mask_Right_ok {m blocks:Int} (hm:inK .u32 m) (hb:inK .i64 blocks) {K:Bool->Prop} (h:K (maskR m blocks)):q54.F m blocks K:=by
 unfold q54.F q54.FV
 have hm:0≤m∧m≤4294967295:=hm
 have hb:-9223372036854775808≤blocks∧blocks≤9223372036854775807:=hb
 obtain ⟨m,rfl⟩:∃ n:Nat,m=n:=⟨m.toNat,by omega⟩
 refine mask_there_ok ?_
 by_cases h1:1≤blocks∧blocks≤32
 ·obtain ⟨b,rfl⟩:∃ n:Nat,blocks=n:=⟨blocks.toNat,by omega⟩
  rw [wrap_i64 (x:=(b:Int) - 1) (by omega),show decide (0≤(b:Int) - 1∧(b:Int) - 1 < 32)=true by simp;omega]
  refine cond_t rfl (mask_All_ok (by omega) (by omega) ?_)
  rw [iandn_zero (by omega)]
  have:maskR m b=decide (m < 2 ^ b):=by
   unfold maskR
   rw [Int.toNat_natCast]
   have e:((2:Int) ^ b)=((2 ^ b:Nat):Int):=by simp
   rw [e]
   simp only [decide_eq_decide]
   omega
  rw [this] at h
  exact h
 ·have e:decide (0≤IntKind.i64.wrap (blocks - 1)∧IntKind.i64.wrap (blocks - 1) < 32)=false:=by
   simp only [decide_eq_false_iff_not]
   by_cases h2:blocks = -9223372036854775808
   ·subst h2;decide
   ·rw [wrap_i64 (by omega)];omega
  rw [e]
  have:maskR m blocks=false:=by unfold maskR;simp only [decide_eq_false_iff_not];omega
  rw [this] at h
  exact cond_f rfl h
theorem ref03_pow_ok {i:Nat} (hi:i≤31) {K:Int->Prop} (h:K ((2 ^ i:Nat):Int)):q36.F i K:=by
 unfold q36.F
 refine loop_ok (I:=fun x:q36.L0=>∃ j:Nat,j≤i∧x=⟨i,((2 ^ j:Nat):Int),j⟩) (m:=fun x:q36.L0=>i - x.i.toNat) ?_ ⟨0,by simp,rfl⟩
 rintro _ ⟨j,hj,rfl⟩ rec hrec
 unfold q36.b0
 dsimp only
 refine cond_ok (fun h1=>?_) (fun h1=>?_)
 ·have hlt:j < i:=by simpa using h1
  rw [wrap_i64 (x:=(j:Int)+1) (by omega)]
  refine hrec _ ⟨j+1,hlt,?_⟩ (by simp;omega)
  congr 1
  have:2 ^ j≤2 ^ 30:=Nat.pow_le_pow_right (by decide) (by omega)
  rw [wrap_u32,Nat.pow_succ]
  omega
 ·have hlt:j=i:=by have:¬ j < i:=by simpa using h1
                   omega
  subst hlt
  exact h
theorem ref03_Has_ok {m i:Nat} (hm:m < 2 ^ 32) (hi:i≤31) {K:Bool->Prop} (h:K (m.testBit i)):q37.F m i K:=by
 unfold q37.F q37.FV
 refine cond_t (by simp) (cond_t (by simp;omega) (ref03_pow_ok hi (cond_f ?_ (cond_f rfl ?_))))
 ·have:=Nat.two_pow_pos i
  have h1:(((2 ^ i:Nat):Int)==0)=false:=by
   rw [beq_eq_false_iff_ne]
   generalize 2 ^ i=y at *
   omega
  exact h1
 ·have hq:m / 2 ^ i < 2 ^ 32:=Nat.lt_of_le_of_lt (Nat.div_le_self _ _) hm
  have e1:IntKind.u32.wrap ((m:Int).tdiv ((2 ^ i:Nat):Int))=((m / 2 ^ i:Nat):Int):=by
   rw [Int.tdiv_eq_ediv_of_nonneg (by omega),wrap_u32,show(m:Int) / ((2 ^ i:Nat):Int)=((m / 2 ^ i:Nat):Int) by norm_cast]
   generalize m / 2 ^ i=y at *
   omega
  rw [e1]
  have e2:m.testBit i=((((m / 2 ^ i:Nat):Int).tmod 2)==1):=by
   rw [Nat.testBit_eq_decide_div_mod_eq]
   generalize m / 2 ^ i=y
   rw [Int.tmod_eq_emod_of_nonneg (by omega),Bool.eq_iff_iff]
   simp only [decide_eq_true_eq,beq_iff_eq]
   omega
  rw [e2] at h
  exact h
theorem ref03_Right_ok {m blocks:Int} (hm:inK .u32 m) {K:Bool->Prop} (h:K (maskR m blocks)):q38.F m blocks K:=by
 unfold q38.F q38.FV
 have hm:0≤m∧m≤4294967295:=hm
 obtain ⟨m,rfl⟩:∃ n:Nat,m=n:=⟨m.toNat,by omega⟩
 have no:¬ (1≤blocks∧blocks≤32)->K false:=by
  intro h1
  have:maskR m blocks=false:=by unfold maskR;simp only [decide_eq_false_iff_not];omega
  rw [this] at h
  exact h
 refine cond_ok (fun h1=>?_) (fun h1=>?_)
 ·have h1:blocks < 1:=of_decide_eq_true h1
  exact no (by omega)
 have h1:¬ blocks < 1:=of_decide_eq_false h1
 refine cond_ok (fun h2=>?_) (fun h2=>?_)
 ·have h2:blocks > 32:=of_decide_eq_true h2
  exact no (by omega)
 have h2:¬ blocks > 32:=of_decide_eq_false h2
 obtain ⟨b,rfl⟩:∃ n:Nat,blocks=n:=⟨blocks.toNat,by omega⟩
 have em:maskR m b=decide (m < 2 ^ b):=by
  unfold maskR
  rw [Int.toNat_natCast]
  have e:((2:Int) ^ b)=((2 ^ b:Nat):Int):=by simp
  rw [e]
  simp only [decide_eq_decide]
  omega
 rw [em] at h
 refine loop_ok (I:=fun x:q38.L0=>∃ i:Nat,b≤i∧i≤32∧(∀ j,b≤j->j < i->m.testBit j=false)∧x=⟨m,i⟩) (m:=fun x:q38.L0=>32 - x.i.toNat) ?_ ⟨b,by omega,by omega,fun j h1 h2=>by omega,rfl⟩
 rintro _ ⟨i,hi,hi2,hj,rfl⟩ rec hrec
 unfold q38.b0V
 dsimp only
 refine cond_ok (fun h3=>?_) (fun h3=>?_)
 ·have h3:(i:Int) < 32:=of_decide_eq_true h3
  refine ref03_Has_ok (by omega) (by omega) (cond_ok (fun h4=>?_) (fun h4=>?_))
  ·have:¬ m < 2 ^ b:=by
    intro h5
    rw [Nat.testBit_lt_two_pow (Nat.lt_of_lt_of_le h5 (Nat.pow_le_pow_right (by decide) hi))] at h4
    cases h4
   rw [show decide (m < 2 ^ b)=false by simpa using this] at h
   exact h
  ·rw [wrap_i64 (x:=(i:Int)+1) (by omega)]
   refine hrec _ ⟨i+1,by omega,by omega,?_,by simp⟩ (by simp;omega)
   intro j h5 h6
   by_cases h7:j=i
   ·subst h7;exact h4
   ·exact hj j h5 (by omega)
 ·have h3:¬ (i:Int) < 32:=of_decide_eq_false h3
  have:m < 2 ^ b:=by
   apply Nat.lt_pow_two_of_testBit
   intro j h5
   by_cases h6:j < i
   ·exact hj j h5 h6
   ·exact Nat.testBit_lt_two_pow (Nat.lt_of_lt_of_le (show m < 2 ^ 32 by omega) (Nat.pow_le_pow_right (by decide) (by omega)))
  rw [show decide (m < 2 ^ b)=true by simpa using this] at h
  exact h
def hRight (h:Hello):Bool:=(h.vector.current != 0)&&(maskR h.mask h.blocks&&(!h.pri||(!h.was && !h.inc)))
theorem hello_Right_ok {h:Hello} (hw:wHello h) {K:Bool->Prop} (k:K (hRight h)):q55.F h K:=by
 obtain ⟨hb,_,hm⟩:=hw
 unfold q55.F q55.FV q51.F
 unfold hRight at k
 refine cond_ok (fun h1=>?_) (fun h1=>?_)
 ·rw [h1] at k
  refine mask_Right_ok hm hb (cond_ok (fun h2=>?_) (fun h2=>?_))
  ·rw [h2] at k
   cases hp:h.pri <;> cases hwas:h.was <;> cases hi:h.inc <;> rw [hp,hwas,hi] at k <;> exact k
  ·rw [h2] at k;exact k
 ·rw [h1] at k;exact k
theorem ref10_Right_ok {h:Hello} (hw:wHello h) {K:Bool->Prop} (k:K (hRight h)):q111.F h K:=by
 obtain ⟨hb,_,hm⟩:=hw
 unfold q111.F q111.FV
 unfold hRight at k
 have no:maskR h.mask h.blocks=false->K false:=by
  intro e;rw [e] at k;simpa using k
 refine cond_ok (fun h1=>?_) (fun h1=>?_)
 ·refine cond_ok (fun h2=>?_) (fun h2=>?_)
  ·refine cond_ok (fun h3=>?_) (fun h3=>?_)
   ·rw [h3] at k
    refine ref03_Right_ok hm (cond_ok (fun h4=>?_) (fun h4=>?_))
    ·rw [h4] at k
     cases hp:h.pri <;> cases hwas:h.was <;> cases hi:h.inc <;> rw [hp,hwas,hi] at k <;> exact k
    ·rw [h4] at k;exact k
   ·rw [h3] at k;exact k
  ·have h2:¬ h.blocks≤32:=of_decide_eq_false h2
   exact no (by unfold maskR;simp only [decide_eq_false_iff_not];omega)
 ·have h1:¬ h.blocks≥1:=of_decide_eq_false h1
  exact no (by unfold maskR;simp only [decide_eq_false_iff_not];omega)
def hOf (s:Super) (primary:Bool) (m:Int):Hello:=⟨s.blocks,s.vector,s.inc,s.pri && !primary,s.dis,primary,m⟩
theorem ref10_Of_ok {s:Super} {p:Bool} {m:Int} {K:Hello->Prop} (h:K (hOf s p m)):q144.F s p m K:=by
 unfold q144.F
 unfold hOf at h
 refine cond_ok (fun h1=>?_) (fun h1=>?_) <;> rw [h1] at h <;> exact h
def hBytes (h:Hello):Str:=
 [UInt8.ofNat h.blocks.toNat,UInt8.ofNat (fv [h.inc,h.was,h.dis,h.pri])]++be h.vector.current.toNat 8++be h.vector.bitmap.toNat 8++be h.vector.old0.toNat 8++be h.vector.old1.toNat 8++be h.mask.toNat 4
def encV (h:Hello):Str×Int:=if hRight h then(hBytes h,0)else([],1)
theorem maskR_bounds {m b:Int} (h:maskR m b=true):1≤b∧b≤32:=by
 unfold maskR at h
 have:=of_decide_eq_true h
 exact⟨this.1,this.2.1⟩
theorem hRight_mask {h:Hello} (k:hRight h=true):maskR h.mask h.blocks=true:=by
 unfold hRight at k
 simp only [Bool.and_eq_true] at k
 exact k.2.1
theorem fits_small {n:Nat} (h:n≤1000000):fits n=true:=fits_ok (by unfold big;omega)
theorem hello_Encode_ok {h:Hello} (hw:wHello h) {K:(Str×Int)->Prop} (k:K (encV h)):q63.F h K:=by
 unfold q63.F q63.FV
 refine hello_Right_ok hw (cond_ok (fun h1=>?_) (fun h1=>?_))
 ·have h1:hRight h=false:=by simpa using h1
  unfold encV at k
  rw [h1] at k
  exact k
 have h1:hRight h=true:=by simpa using h1
 unfold encV at k
 rw [h1,if_pos rfl] at k
 have hm:=maskR_bounds (hRight_mask h1)
 obtain ⟨blocks,⟨c,b,o0,o1⟩,inc,was,dis,pri,mask⟩:=h
 obtain ⟨-,⟨hc,hb,h0,h1'⟩,hmk⟩:=hw
 have hc:0≤c∧c≤18446744073709551615:=hc
 have hb:0≤b∧b≤18446744073709551615:=hb
 have h0:0≤o0∧o0≤18446744073709551615:=h0
 have h1':0≤o1∧o1≤18446744073709551615:=h1'
 have hmk:0≤mask∧mask≤4294967295:=hmk
 obtain ⟨c,rfl⟩:∃ n:Nat,c=n:=⟨c.toNat,by omega⟩
 obtain ⟨b,rfl⟩:∃ n:Nat,b=n:=⟨b.toNat,by omega⟩
 obtain ⟨o0,rfl⟩:∃ n:Nat,o0=n:=⟨o0.toNat,by omega⟩
 obtain ⟨o1,rfl⟩:∃ n:Nat,o1=n:=⟨o1.toNat,by omega⟩
 obtain ⟨mask,rfl⟩:∃ n:Nat,mask=n:=⟨mask.toNat,by omega⟩
 dsimp only at hm
 obtain ⟨blocks,rfl⟩:∃ n:Nat,blocks=n:=⟨blocks.toNat,by omega⟩
 have e:∀ x:Nat,bytesOfInts [IntKind.u8.wrap (blocks:Int),(x:Int)]=[UInt8.ofNat blocks,UInt8.ofNat x]:=by
  intro x
  simp only [bytesOfInts,List.map_cons,List.map_nil,Int.toNat_natCast]
  rw [wrap_u8,show(blocks:Int) % 256=(blocks:Int) by omega]
  rfl
 refine num_Flags_ok (num_Put64_ok (gd_ok (fits_small (by simp [bytesOfInts,be_length])) (num_Put64_ok (gd_ok (fits_small (by simp [bytesOfInts,be_length])) (num_Put64_ok (gd_ok (fits_small (by simp [bytesOfInts,be_length])) (num_Put64_ok (gd_ok (fits_small (by simp [bytesOfInts,be_length])) (num_Put32_ok (by omega) (gd_ok (fits_small (by simp [bytesOfInts,be_length])) ?_))))))))))
 rw [e]
 exact k
theorem ref10_Encode_ok {h:Hello} (hw:wHello h) {K:(Str×Int)->Prop} (k:K (encV h)):q115.F h K:=by
 unfold q115.F q115.FV
 refine ref10_Right_ok hw (cond_ok (fun h1=>?_) (fun h1=>?_))
 ·have h1:hRight h=false:=by simpa using h1
  unfold encV at k
  rw [h1] at k
  exact k
 have h1:hRight h=true:=by simpa using h1
 unfold encV at k
 rw [h1,if_pos rfl] at k
 have hm:=maskR_bounds (hRight_mask h1)
 obtain ⟨blocks,⟨c,b,o0,o1⟩,inc,was,dis,pri,mask⟩:=h
 obtain ⟨-,⟨hc,hb,h0,h1'⟩,hmk⟩:=hw
 have hc:0≤c∧c≤18446744073709551615:=hc
 have hb:0≤b∧b≤18446744073709551615:=hb
 have h0:0≤o0∧o0≤18446744073709551615:=h0
 have h1':0≤o1∧o1≤18446744073709551615:=h1'
 have hmk:0≤mask∧mask≤4294967295:=hmk
 obtain ⟨c,rfl⟩:∃ n:Nat,c=n:=⟨c.toNat,by omega⟩
 obtain ⟨b,rfl⟩:∃ n:Nat,b=n:=⟨b.toNat,by omega⟩
 obtain ⟨o0,rfl⟩:∃ n:Nat,o0=n:=⟨o0.toNat,by omega⟩
 obtain ⟨o1,rfl⟩:∃ n:Nat,o1=n:=⟨o1.toNat,by omega⟩
 obtain ⟨mask,rfl⟩:∃ n:Nat,mask=n:=⟨mask.toNat,by omega⟩
 dsimp only at hm
 obtain ⟨blocks,rfl⟩:∃ n:Nat,blocks=n:=⟨blocks.toNat,by omega⟩
 have e:∀ x:Nat,bytesOfInts [IntKind.u8.wrap (blocks:Int),(x:Int)]=[UInt8.ofNat blocks,UInt8.ofNat x]:=by
  intro x
  simp only [bytesOfInts,List.map_cons,List.map_nil,Int.toNat_natCast]
  rw [wrap_u8,show(blocks:Int) % 256=(blocks:Int) by omega]
  rfl
 refine ref01_Flags_ok (ref01_Put64_ok (by omega) (gd_ok (fits_small (by simp [bytesOfInts,be_length])) (ref01_Put64_ok (by omega) (gd_ok (fits_small (by simp [bytesOfInts,be_length])) (ref01_Put64_ok (by omega) (gd_ok (fits_small (by simp [bytesOfInts,be_length])) (ref01_Put64_ok (by omega) (gd_ok (fits_small (by simp [bytesOfInts,be_length])) (ref01_Put32_ok (by omega) (gd_ok (fits_small (by simp [bytesOfInts,be_length])) ?_))))))))))
 rw [e]
 exact k
def zeroH:Hello:=⟨0,⟨0,0,0,0⟩,false,false,false,false,0⟩
def bit (b:UInt8) (i:Nat):Bool:=b.toNat / 2 ^ i % 2==1
def hOfBytes (b:Str):Hello:=
 ⟨((b.getD 0 0).toNat:Int),⟨(unbe (sub b 2 10):Int),(unbe (sub b 10 18):Int),(unbe (sub b 18 26):Int),(unbe (sub b 26 34):Int)⟩,bit (b.getD 1 0) 0,bit (b.getD 1 0) 1,bit (b.getD 1 0) 2,bit (b.getD 1 0) 3,(unbe (b.drop 34):Int)⟩
def decV (b:Str):Hello×Int:=if b.length=38∧(b.getD 1 0).toNat < 16∧hRight (hOfBytes b)=true then(hOfBytes b,0)else(zeroH,2)
theorem sub_len {α:Type} {b:List α} {i j:Nat} (h:j≤b.length):(sub b i j).length=j - i:=by simp [sub];omega
theorem getN_of {s:Str} {k:Nat} (h:s.length=k):getN s k=((unbe s:Int),true):=by unfold getN;rw [if_pos h]
theorem wH_of {b:Str} (h:b.length=38):wHello (hOfBytes b):=by
 have u8:∀ s:Str,s.length=8->inK .u64 (unbe s:Int):=by
  intro s hs
  have h1:=unbe_lt 8 s hs
  have h2:(256:Nat) ^ 8=18446744073709551616:=by decide
  show(0:Int)≤unbe s∧(unbe s:Int)≤18446744073709551615
  omega
 have h4:=unbe_lt 4 (b.drop 34) (by simp;omega)
 have h5:=u8_lt (b.getD 0 0)
 refine⟨?_,⟨u8 _ (sub_len (by omega)),u8 _ (sub_len (by omega)),u8 _ (sub_len (by omega)),u8 _ (sub_len (by omega))⟩,?_⟩
 ·show(-9223372036854775808:Int)≤((b.getD 0 0).toNat:Int)∧((b.getD 0 0).toNat:Int)≤9223372036854775807
  omega
 ·show(0:Int)≤(unbe (b.drop 34):Int)∧(unbe (b.drop 34):Int)≤4294967295
  omega
theorem getI_lit {α:Type} {xs:List α} (d:α) {i:Nat} (h:i < xs.length):getI xs (i:Int)=some (xs.getD i d):=by
 rw [getI_ok h];simp [h]
theorem ref10_number_ok {b:Str} {i:Nat} (h:i+8≤b.length) (h2:i≤1000) {K:Int->Prop} (k:K (unbe (sub b i (i+8)):Int)):q151.F b i K:=by
 unfold q151.F q151.FV
 rw [wrap_i64 (x:=(i:Int)+8) (by omega)]
 refine gd_ok (by simp;omega) ?_
 rw [show Int.toNat ((i:Int)+8)=i+8 by omega,show Int.toNat (i:Int)=i by omega]
 refine ref01_Get64_ok ?_
 rw [getN_of (by rw [sub_len h];omega)]
 exact k
theorem ref10_Decode_ok {b:Str} {K:(Hello×Int)->Prop} (k:K (decV b)):q152.F b K:=by
 unfold q152.F q152.FV
 refine cond_ok (fun h1=>?_) (fun h1=>?_)
 ·have h1:b.length≠38:=bne_nat (b:=38) h1
  unfold decV at k
  rw [if_neg (by simp [h1])] at k
  exact k
 have hl:b.length=38:=bne_nat' (b:=38) h1
 refine oget_ok (getI_lit 0 (i:=1) (by omega)) ?_
 refine cond_ok (fun h2=>?_) (fun h2=>?_)
 ·have h2:((b.getD 1 0).toNat:Int) > 15:=of_decide_eq_true h2
  unfold decV at k
  rw [if_neg (by simp only [not_and];intro _ h3;omega)] at k
  exact k
 have h2':¬ ((b.getD 1 0).toNat:Int) > 15:=of_decide_eq_false h2
 have h2:(b.getD 1 0).toNat < 16:=by omega
 have hu:unflag (b.getD 1 0).toNat 4=([bit (b.getD 1 0) 0,bit (b.getD 1 0) 1,bit (b.getD 1 0) 2,bit (b.getD 1 0) 3],true):=by
  unfold unflag
  rw [if_pos ⟨by decide,by decide,by show _ / 2 ^ 4=0;omega⟩]
  rfl
 refine oget_ok (getI_lit 0 (i:=1) (by omega)) (ref01_Unflag_ok (u8_lt _) ?_)
 rw [hu]
 refine gd_ok (by simp [hl]) (ref01_Get32_ok ?_)
 rw [sub_drop]
 simp only [show Int.toNat 34=34 from rfl]
 rw [getN_of (s:=b.drop 34) (by simp;omega)]
 refine oget_ok (getI_lit 0 (i:=0) (by omega)) (oget_ok rfl (oget_ok rfl (oget_ok rfl (oget_ok rfl ?_))))
 refine ref10_number_ok (i:=2) (by omega) (by decide) (ref10_number_ok (i:=10) (by omega) (by decide) (ref10_number_ok (i:=18) (by omega) (by decide) (ref10_number_ok (i:=26) (by omega) (by decide) ?_)))
 have e0:IntKind.i64.wrap ((b.getD 0 0).toNat:Int)=((b.getD 0 0).toNat:Int):=by
  have:=u8_lt (b.getD 0 0)
  rw [wrap_i64 (by omega)]
 rw [e0]
 refine ref10_Right_ok (wH_of hl) (cond_ok (fun h3=>?_) (fun h3=>?_))
 ·have h3:hRight (hOfBytes b)=false:=by simpa using h3
  unfold decV at k
  rw [if_neg (by simp [h3])] at k
  exact k
 ·have h3:hRight (hOfBytes b)=true:=by simpa using h3
  unfold decV at k
  rw [if_pos ⟨hl,h2,h3⟩] at k
  exact k
theorem hBytes_length (h:Hello):(hBytes h).length=38:=by simp [hBytes,be_length]
theorem hBytes_of {b:Str} (hl:b.length=38) (h16:(b.getD 1 0).toNat < 16):hBytes (hOfBytes b)=b:=by
 have u:∀ (s:Str) (k:Nat),s.length=k->be ((unbe s:Nat):Int).toNat k=s:=by
  intro s k h
  rw [Int.toNat_natCast,be_unbe k s h]
 unfold hBytes hOfBytes
 dsimp only
 rw [u _ 8 (sub_len (by omega)),u _ 8 (sub_len (by omega)),u _ 8 (sub_len (by omega)),u _ 8 (sub_len (by omega)),u _ 4 (by simp;omega)]
 have ef:fv [bit (b.getD 1 0) 0,bit (b.getD 1 0) 1,bit (b.getD 1 0) 2,bit (b.getD 1 0) 3]=(b.getD 1 0).toNat:=fv_unf 4 _ h16
 have e8:∀ x:UInt8,UInt8.ofNat x.toNat=x:=by intro x;apply UInt8.toNat_inj.1;rw [toNat_ofNat];have:=u8_lt x;omega
 rw [ef,Int.toNat_natCast,e8,e8]
 have join:∀ i j,i≤j->j≤b.length->sub b i j++b.drop j=b.drop i:=by
  intro i j h1 h2
  unfold sub
  have:=List.take_append_drop j b
  conv=>rhs;rw [← this]
  rw [List.drop_append_of_le_length (by simp;omega)]
 have e0:[b.getD 0 0,b.getD 1 0]++b.drop 2=b:=by
  match b,hl with
  | x :: y :: r,_=>rfl
 rw [List.append_assoc,List.append_assoc,List.append_assoc,List.append_assoc,join 26 34 (by decide) (by omega),join 18 26 (by decide) (by omega),join 10 18 (by decide) (by omega),join 2 10 (by decide) (by omega)]
 exact e0
end Gm

set_option maxRecDepth 100000
namespace Gm
open Go
def hEq (a b:Hello):Bool:=(a.blocks==b.blocks)&&(((a.vector.current==b.vector.current)&&((a.vector.bitmap==b.vector.bitmap)&&(((a.vector.old0==b.vector.old0)&&((a.vector.old1==b.vector.old1)&&true))&&true)))&&((a.inc==b.inc)&&((a.was==b.was)&&((a.dis==b.dis)&&((a.pri==b.pri)&&((a.mask==b.mask)&&true))))))
def hA:Hello:=⟨3,⟨7,0,0,0⟩,false,true,false,false,5⟩
def hB:Hello:=⟨3,⟨7,0,0,0⟩,false,false,false,false,8⟩
theorem wZ:wHello zeroH:=by
 refine⟨?_,⟨?_,?_,?_,?_⟩,?_⟩ <;> exact⟨by decide,by decide⟩
theorem rZ:hRight zeroH=false:=by decide
end Gm

set_option maxRecDepth 100000
namespace Gm
open Go
structure OkD (N:Nat) (d:Disk):Prop where
 s:d.sure.length≤N
 c:d.cache.length≤N
 r:InR d.sure.length d.cache
 f:inK .i64 d.fuse
 p:0≤d.fuse
 ds:∀ s∈d.sure,s.length≤N
 dc:∀ w∈d.cache,w.data.length≤N
theorem ref04_holds_ok {d:Disk} {i:Nat} (hi:i < d.sure.length) (hc:d.cache.length≤1000000) {K:Str->Prop} (h:K (holds d.sure[i] d.cache i)):q25.F d i K:=by
 unfold q25.F
 refine oget_ok (getI_ok hi) ?_
 refine loop_ok (I:=fun x:q25.L0=>∃ (k:Nat) (s:Str),k≤d.cache.length∧holds s (d.cache.drop k) i=holds d.sure[i] d.cache i∧x=⟨i,s,k,d⟩) (m:=fun x:q25.L0=>d.cache.length - x.k.toNat) ?_ ⟨0,_,by simp,by simp,rfl⟩
 rintro _ ⟨k,s,hk,he,rfl⟩ rec hrec
 unfold q25.b0
 dsimp only
 refine cond_ok (fun h4=>?_) (fun h4=>?_)
 ·have hlt:=lt_of_dec h4
  rw [wrap_succ (by unfold big;omega)]
  refine oget_ok (getI_ok hlt) (cond_ok (fun h5=>oget_ok (getI_ok hlt) ?_) (fun h5=>?_))
  ·have h5:(d.cache[k]).sector=(i:Int):=by simpa using h5
   refine hrec _ ⟨k+1,_,hlt,?_,rfl⟩ (by simp;omega)
   rw [← he,drop_cons hlt]
   unfold holds
   rw [List.foldl_cons,if_pos h5]
  ·have h5:(d.cache[k]).sector≠(i:Int):=by simpa using h5
   refine hrec _ ⟨k+1,_,hlt,?_,rfl⟩ (by simp;omega)
   rw [← he,drop_cons hlt]
   unfold holds
   rw [List.foldl_cons,if_neg h5]
 ·have e:=le_of_dec h4 hk
  subst e
  rw [List.drop_length] at he
  rw [← he] at h
  exact h
theorem ref04_Read_ok {d:Disk} {i:Int} (hc:d.cache.length≤1000000) {K:(Str×Int)->Prop} (h:K (readV d i)):q26.F d i K:=by
 unfold q26.F q26.FV
 unfold readV at h
 refine cond_ok (fun h1=>?_) (fun h1=>?_)
 ·rw [if_pos h1] at h;exact h
 rw [if_neg (by simp [h1])] at h
 refine cond_ok (fun h2=>?_) (fun h2=>?_)
 ·have h2:i < 0:=of_decide_eq_true h2
  rw [if_neg (by omega)] at h;exact h
 have h2:¬ i < 0:=of_decide_eq_false h2
 refine cond_ok (fun h3=>?_) (fun h3=>?_)
 ·have h3:i≥(d.sure.length:Int):=of_decide_eq_true h3
  rw [if_neg (by omega)] at h;exact h
 have h3:¬ i≥(d.sure.length:Int):=of_decide_eq_false h3
 rw [if_pos (by omega)] at h
 obtain ⟨k,rfl⟩:∃ k:Nat,i=k:=⟨i.toNat,by omega⟩
 have hk:k < d.sure.length:=by omega
 refine ref04_holds_ok hk hc ?_
 have e:d.sure.getD (k:Int).toNat []=d.sure[k]:=by simp [hk]
 rw [e] at h
 exact h
def burnV (d:Disk):Disk:=if d.fuse=0 then d else if d.fuse=1 then ⟨d.sure,d.cache,0,true⟩ else ⟨d.sure,d.cache,d.fuse - 1,d.dead⟩
theorem ref04_burn_ok {d:Disk} (hf:inK .i64 d.fuse) (h0:0≤d.fuse) {K:Disk->Prop} (h:K (burnV d)):q119.F d K:=by
 unfold q119.F
 unfold burnV at h
 rw [fuse_wrap hf h0]
 refine cond_ok (fun h1=>?_) (fun h1=>?_)
 ·have h1:d.fuse=1:=by simpa using h1
  rw [if_neg (by omega),if_pos h1] at h
  refine cond_t (by simp [h1]) ?_
  rw [h1];exact h
 ·have h1:d.fuse≠1:=by simpa using h1
  refine cond_ok (fun h2=>?_) (fun h2=>?_)
  ·have h2:d.fuse > 0:=of_decide_eq_true h2
   rw [if_neg (by omega),if_neg h1] at h
   exact h
  ·have h2:¬ d.fuse > 0:=of_decide_eq_false h2
   rw [if_pos (by omega)] at h
   exact h
theorem ref04_Write_ok {N:Nat} {d:Disk} {i:Int} {data:Str} (hN:N≤100000) (o:OkD N d) {K:(Disk×Int)->Prop} (h:K (writeV d i data)):q120.F d i data K:=by
 unfold q120.F q120.FV
 unfold writeV at h
 refine cond_ok (fun h1=>?_) (fun h1=>?_)
 ·rw [if_pos h1] at h;exact h
 rw [if_neg (by simp [h1])] at h
 refine cond_ok (fun h2=>?_) (fun h2=>?_)
 ·have h2:i < 0:=of_decide_eq_true h2
  rw [if_pos (by omega)] at h;exact h
 have h2:¬ i < 0:=of_decide_eq_false h2
 refine cond_ok (fun h3=>?_) (fun h3=>?_)
 ·have h3:i≥(d.sure.length:Int):=of_decide_eq_true h3
  rw [if_pos (by omega)] at h;exact h
 have h3:¬ i≥(d.sure.length:Int):=of_decide_eq_false h3
 rw [if_neg (fun hn=>hn ⟨by omega,by omega⟩)] at h
 refine cond_ok (fun h4=>?_) (fun h4=>?_)
 ·have h4:(data.length:Int) > 64:=of_decide_eq_true h4
  rw [if_pos (by omega)] at h;exact h
 have h4:¬ (data.length:Int) > 64:=of_decide_eq_false h4
 rw [if_neg (by omega)] at h
 have hc:=o.c
 refine ref04_burn_ok o.f o.p ?_
 unfold burnV
 by_cases h5:d.fuse=0
 ·rw [if_pos h5] at h ⊢
  refine cond_f h1 (gd_ok (fit_ok (by omega)) (gd_ok (fit_ok (by simp;omega)) ?_))
  rw [h5,h1];exact h
 ·rw [if_neg h5] at h ⊢
  by_cases h6:d.fuse=1
  ·rw [if_pos h6] at h ⊢
   exact cond_t rfl h
  ·rw [if_neg h6] at h ⊢
   refine cond_f h1 (gd_ok (fit_ok (by show d.cache.length * 24≤_;omega)) (gd_ok (fit_ok (by simp;omega)) ?_))
   dsimp only
   rw [h1];exact h
theorem ref04_Flush_ok {N:Nat} {d:Disk} (hN:N≤100000) (o:OkD N d) {K:(Disk×Int)->Prop} (h:K (flushV d)):q121.F d K:=by
 unfold q121.F q121.FV
 unfold flushV at h
 have hs:=o.s
 have hc:=o.c
 refine cond_ok (fun h1=>?_) (fun h1=>?_)
 ·rw [if_pos h1] at h;exact h
 rw [if_neg (by simp [h1])] at h
 refine ref04_burn_ok o.f o.p ?_
 have main:∀ (r:Disk),r.sure=d.sure->r.cache=d.cache->r.dead=false->K (⟨settleV d.sure d.cache,[],r.fuse,false⟩,0)->
   ∃ n,loopB (q121.b0V q119.F q25.F) n (fun x3:q121.L0=>(K ((⟨x3.sure,([]:List Write),x3.m0.fuse,x3.m0.dead⟩:Disk),0))) (fun _=>False) ⟨([]:List Str),0,r,⟨[],[],0,false⟩⟩:=by
  intro r e1 e2 e3 hk
  refine loop_ok (I:=fun x:q121.L0=>∃ i:Nat,i≤d.sure.length∧x=⟨(settleV d.sure d.cache).take i,i,r,⟨[],[],0,false⟩⟩) (m:=fun x:q121.L0=>d.sure.length - x.i.toNat) ?_ ⟨0,by simp,by simp⟩
  rintro _ ⟨i,hi,rfl⟩ rec hrec
  unfold q121.b0V
  dsimp only
  have hl:=settleV_length d.cache d.sure
  rw [e1]
  refine cond_ok (fun h4=>?_) (fun h4=>?_)
  ·have hlt:=lt_of_dec h4
   refine ref04_holds_ok (d:=r) (by rw [e1];exact hlt) (by rw [e2];omega) (gd_ok (fit_ok (by simp;omega)) ?_)
   rw [wrap_succ (by unfold big;omega)]
   refine hrec _ ⟨i+1,hlt,?_⟩ (by simp;omega)
   have:=settle_holds d.cache d.sure i hlt o.r
   rw [take_succ (by omega)]
   rw [List.getElem?_eq_getElem (by omega)] at this
   rw [Option.some.inj this]
   simp only [e1,e2]
  ·have e:=le_of_dec h4 hi
   rw [List.take_of_length_le (by omega),e3]
   exact hk
 unfold burnV
 by_cases h5:d.fuse=0
 ·rw [if_pos h5] at h ⊢
  exact cond_f h1 (main d rfl rfl h1 (by rw [h5];exact h))
 ·rw [if_neg h5] at h ⊢
  by_cases h6:d.fuse=1
  ·rw [if_pos h6] at h ⊢
   exact cond_t rfl h
  ·rw [if_neg h6] at h ⊢
   exact cond_f h1 (main ⟨d.sure,d.cache,d.fuse - 1,d.dead⟩ rfl rfl h1 h)
def loadV (d:Disk):Int×Int:=
 if (readV d 1).2≠0 then(0,(readV d 1).2)
 else if (openV (readV d 1).1).2≠0 then(0,(openV (readV d 1).1).2)
 else if (openV (readV d 1).1).1.length=4∧maskR (unbe (openV (readV d 1).1).1) ((d.sure.length:Int) - 2)=true then((unbe (openV (readV d 1).1).1:Int),0)else(0,2)
def noteV (d:Disk) (m:Nat):Disk×Int:=if maskR m ((d.sure.length:Int) - 2)=true then writeV d 1 (sealV (be m 4))else(d,1)
def saveV (d:Disk) (m:Nat):Disk×Int:=if (noteV d m).2≠0 then noteV d m else flushV (noteV d m).1
theorem holds_le {N:Nat}:∀ (ws:List Write) (s:Str) (i:Int),s.length≤N->(∀ w∈ws,w.data.length≤N)->(holds s ws i).length≤N
 | [],s,_,h,_=>h
 | w :: ws,s,i,h,hw=>by
  unfold holds
  rw [List.foldl_cons]
  refine holds_le ws _ i ?_ (fun w' h'=>hw w' (List.mem_cons_of_mem _ h'))
  split
  ·exact hw w (by simp)
  ·exact h
theorem read_le {N:Nat} {d:Disk} (o:OkD N d) (i:Int):(readV d i).1.length≤N:=by
 unfold readV
 split
 ·simp
 ·split
  ·rename_i h1 h2
   refine holds_le _ _ _ ?_ o.dc
   have hi:i.toNat < d.sure.length:=by omega
   have e:d.sure.getD i.toNat []=d.sure[i.toNat]:=by simp [hi]
   rw [e]
   exact o.ds _ (List.getElem_mem hi)
  ·simp
theorem sub2 {n:Nat} (h:n≤1000000):IntKind.i64.wrap ((n:Int) - 2)=(n:Int) - 2:=wrap_i64 (by omega)
theorem in_sub2 {n:Nat} (h:n≤1000000):inK .i64 ((n:Int) - 2):=⟨by show(-9223372036854775808:Int)≤_;omega,by show _≤(9223372036854775807:Int);omega⟩
theorem inK32 {n:Nat} (h:n < 2 ^ 32):inK .u32 (n:Int):=⟨by show(0:Int)≤_;omega,by show _≤(4294967295:Int);omega⟩
theorem ref08_Load_ok {N:Nat} {d:Disk} (hN:N≤100000) (o:OkD N d) {K:(Int×Int)->Prop} (h:K (loadV d)):q39.F d K:=by
 unfold q39.F q39.FV
 have hs:=o.s
 have hc:=o.c
 have hl:=read_le o 1
 refine ref04_Read_ok (by omega) ?_
 unfold loadV at h
 refine cond_ok (fun h1=>?_) (fun h1=>?_)
 ·have h1:(readV d 1).2≠0:=by simpa using h1
  rw [if_pos h1] at h;exact h
 have h1:(readV d 1).2=0:=by simpa using h1
 rw [if_neg (by simp [h1])] at h
 refine ref02_Open_ok (wStr_of (by omega)) (cond_ok (fun h2=>?_) (fun h2=>?_))
 ·have h2:(openV (readV d 1).1).2≠0:=by simpa using h2
  rw [if_pos h2] at h;exact h
 have h2:(openV (readV d 1).1).2=0:=by simpa using h2
 rw [if_neg (by simp [h2])] at h
 refine ref01_Get32_ok ?_
 unfold getN
 by_cases h3:(openV (readV d 1).1).1.length=4
 ·rw [if_pos h3]
  refine cond_f rfl ?_
  have hlt:=unbe_lt 4 _ h3
  rw [sub2 (by omega)]
  refine ref03_Right_ok (inK32 (by omega)) (cond_ok (fun h4=>?_) (fun h4=>?_))
  ·rw [if_neg (by rintro ⟨_,h5⟩;rw [h5] at h4;cases h4)] at h;exact h
  ·rw [if_pos ⟨h3,by simpa using h4⟩] at h;exact h
 ·rw [if_neg h3]
  rw [if_neg (by rintro ⟨h5,_⟩;exact h3 h5)] at h
  exact cond_t rfl h
theorem ref08_Note_ok {N:Nat} {d:Disk} {m:Nat} (hm:m < 2 ^ 32) (hN:N≤100000) (o:OkD N d) {K:(Disk×Int)->Prop} (h:K (noteV d m)):q135.F d m K:=by
 unfold q135.F q135.FV
 have hs:=o.s
 have hc:=o.c
 rw [sub2 (by omega)]
 unfold noteV at h
 refine ref03_Right_ok (inK32 hm) (cond_ok (fun h4=>?_) (fun h4=>?_))
 ·rw [if_neg (by intro h5;rw [h5] at h4;cases h4)] at h;exact h
 ·rw [if_pos (by simpa using h4)] at h
  exact ref01_Put32_ok hm (ref02_Seal_ok (wStr_of (by rw [be_length];decide)) (ref04_Write_ok hN o h))
theorem write_ok {N:Nat} {d:Disk} {i:Int} {data:Str} (o:OkD N d) (h64:64≤N):OkD (N+1) (writeV d i data).1:=by
 have base:OkD (N+1) d:=⟨Nat.le_succ_of_le o.s,Nat.le_succ_of_le o.c,o.r,o.f,o.p,fun s hs=>Nat.le_succ_of_le (o.ds s hs),fun w hw=>Nat.le_succ_of_le (o.dc w hw)⟩
 have hf:-9223372036854775808≤d.fuse∧d.fuse≤9223372036854775807:=o.f
 have hp:=o.p
 unfold writeV
 split
 ·exact base
 split
 ·exact base
 split
 ·exact base
 rename_i h1 h2 h3
 have h2:0≤i∧i < (d.sure.length:Int):=Classical.not_not.1 h2
 have grow:∀ f:Int,inK .i64 f->0≤f->OkD (N+1) ⟨d.sure,d.cache++[⟨i,data⟩],f,false⟩:=by
  intro f hf0 hp0
  refine⟨base.s,?_,?_,hf0,hp0,base.ds,?_⟩
  ·show(d.cache++[_]).length≤N+1
   have:=o.c
   simp;omega
  ·intro w hw
   rcases List.mem_append.1 hw with h | h
   ·exact o.r w h
   ·simp at h;subst h;exact h2
  ·intro w hw
   rcases List.mem_append.1 hw with h | h
   ·exact base.dc w h
   ·simp at h;subst h;show data.length≤N+1;omega
 split
 ·exact grow 0 in0 (by decide)
 split
 ·exact⟨base.s,base.c,base.r,in0,by show(0:Int)≤0;omega,base.ds,base.dc⟩
 ·rename_i h4 h5
  exact grow _ ⟨by show(-9223372036854775808:Int)≤_;omega,by show _≤(9223372036854775807:Int);omega⟩ (by omega)
theorem note_ok {N:Nat} {d:Disk} {m:Nat} (o:OkD N d) (h64:64≤N):OkD (N+1) (noteV d m).1:=by
 unfold noteV
 split
 ·exact write_ok o h64
 ·exact⟨Nat.le_succ_of_le o.s,Nat.le_succ_of_le o.c,o.r,o.f,o.p,fun s hs=>Nat.le_succ_of_le (o.ds s hs),fun w hw=>Nat.le_succ_of_le (o.dc w hw)⟩
theorem ref08_Save_ok {N:Nat} {d:Disk} {m:Nat} (hm:m < 2 ^ 32) (hN:N≤10000) (h64:64≤N) (o:OkD N d) {K:(Disk×Int)->Prop} (h:K (saveV d m)):q136.F d m K:=by
 unfold q136.F q136.FV
 have o2:=note_ok (m:=m) o h64
 refine ref08_Note_ok hm (by omega) o ?_
 unfold saveV at h
 refine cond_ok (fun h1=>?_) (fun h1=>?_)
 ·rw [if_pos (by simpa using h1)] at h;exact h
 ·rw [if_neg (by simpa using h1)] at h
  exact ref04_Flush_ok (by omega) o2 h
end Gm

set_option maxRecDepth 100000
namespace Gm
open Go
theorem settle_ok {N:Nat} {d:Disk} (o:OkD N d) {ws:List Write} (hw:∀ w∈ws,w∈d.cache):∀ s∈settleV d.sure ws,s.length≤N:=by
 intro s hs
 obtain ⟨i,hi,e⟩:=List.mem_iff_getElem.1 hs
 rcases settle_get _ _ i s (by rw [List.getElem?_eq_getElem hi,e]) with h | ⟨w,h,h1,h2⟩
 ·exact o.ds s (List.mem_of_getElem? h)
 ·rw [← h2];exact o.dc w (hw w h)
theorem bare_ok {N:Nat} {d:Disk} (o:OkD N d) {ws:List Write} (hw:∀ w∈ws,w∈d.cache):OkD N ⟨settleV d.sure ws,[],0,false⟩:=
 ⟨(by show(settleV _ _).length≤N;rw [settleV_length];exact o.s),Nat.zero_le _,(fun w h=>by cases h),in0,(by show(0:Int)≤0;omega),settle_ok o hw,(fun w h=>by cases h)⟩
theorem revive_ok {N:Nat} {d:Disk} (o:OkD N d) (keeps:List Bool):OkD N (reviveV d keeps):=bare_ok o (kept_sub _ _)
theorem crash_ok {N:Nat} {d:Disk} (o:OkD N d):OkD N (crashV d):=⟨o.s,o.c,o.r,in0,by show(0:Int)≤0;omega,o.ds,o.dc⟩
end Gm

set_option maxRecDepth 100000
namespace Gm
open Go
def bd (d:Disk) (i:Int):Prop:=0≤i∧i < (d.sure.length:Int) - 2
instance (d:Disk) (i:Int):Decidable (bd d i):=by unfold bd;infer_instance
theorem area_there_ok {d:Disk} {i:Int} (hs:d.sure.length≤1000000) {K:Bool->Prop} (h:K (decide (bd d i))):q46.F d i K:=by
 unfold q46.F
 rw [sub2 hs]
 refine cond_ok (fun h1=>?_) (fun h1=>?_)
 ·have h1:i≥0:=of_decide_eq_true h1
  rw [show decide (bd d i)=decide (i < (d.sure.length:Int) - 2) by rw [Bool.eq_iff_iff,decide_eq_true_eq,decide_eq_true_eq];unfold bd;omega] at h
  exact h
 ·have h1:¬ i≥0:=of_decide_eq_false h1
  rw [show decide (bd d i)=false from decide_eq_false (by unfold bd;omega)] at h
  exact h
theorem ref09_there_ok {d:Disk} {i:Int} (hs:d.sure.length≤1000000) {K:Bool->Prop} (h:K (decide (bd d i))):q40.F d i K:=by
 unfold q40.F
 rw [sub2 hs]
 refine cond_ok (fun h1=>?_) (fun h1=>?_)
 ·have h1:i≥0:=of_decide_eq_true h1
  rw [show decide (bd d i)=decide (i < (d.sure.length:Int) - 2) by rw [Bool.eq_iff_iff,decide_eq_true_eq,decide_eq_true_eq];unfold bd;omega] at h
  exact h
 ·have h1:¬ i≥0:=of_decide_eq_false h1
  rw [show decide (bd d i)=false from decide_eq_false (by unfold bd;omega)] at h
  exact h
def aReadV (d:Disk) (i:Int):Str×Int:=
 if bd d i then(if (readV d (i+2)).2≠0 then([],(readV d (i+2)).2)else if (readV d (i+2)).1.length=8 then((readV d (i+2)).1,0)else([],2))else([],4)
theorem add2 {d:Disk} {i:Int} (hs:d.sure.length≤1000000) (h:bd d i):IntKind.i64.wrap (i+2)=i+2:=by
 obtain ⟨h1,h2⟩:=h
 exact wrap_i64 (by omega)
theorem ref09_Read_ok {N:Nat} {d:Disk} {i:Int} (hN:N≤100000) (o:OkD N d) {K:(Str×Int)->Prop} (h:K (aReadV d i)):q41.F d i K:=by
 have hs:=o.s
 have hc:=o.c
 unfold q41.F q41.FV
 unfold aReadV at h
 refine ref09_there_ok (by omega) (cond_ok (fun h1=>?_) (fun h1=>?_))
 ·rw [if_neg (by simpa using h1)] at h;exact h
 have h1:bd d i:=by simpa using h1
 rw [if_pos h1] at h
 rw [add2 (by omega) h1]
 refine ref04_Read_ok (by omega) (cond_ok (fun h2=>?_) (fun h2=>?_))
 ·rw [if_pos (by simpa using h2)] at h;exact h
 rw [if_neg (by simpa using h2)] at h
 refine cond_ok (fun h3=>?_) (fun h3=>?_)
 ·rw [if_neg (bne_nat (b:=8) h3)] at h;exact h
 ·rw [if_pos (bne_nat' (b:=8) h3)] at h;exact h
def putV (d:Disk) (i:Int) (data:Str):Disk×Int:=
 if bd d i then(if data.length=8 then(if (writeV d (i+2) data).2≠0 then writeV d (i+2) data else flushV (writeV d (i+2) data).1)else(d,5))else(d,4)
theorem ref09_Put_ok {N:Nat} {d:Disk} {i:Int} {data:Str} (hN:N≤10000) (h64:64≤N) (o:OkD N d) {K:(Disk×Int)->Prop} (h:K (putV d i data)):q140.F d i data K:=by
 have hs:=o.s
 have hc:=o.c
 unfold q140.F q140.FV
 unfold putV at h
 refine ref09_there_ok (by omega) (cond_ok (fun h1=>?_) (fun h1=>?_))
 ·rw [if_neg (by simpa using h1)] at h;exact h
 have h1:bd d i:=by simpa using h1
 rw [if_pos h1] at h
 rw [add2 (by omega) h1]
 refine cond_ok (fun h3=>?_) (fun h3=>?_)
 ·rw [if_neg (bne_nat (b:=8) h3)] at h;exact h
 rw [if_pos (bne_nat' (b:=8) h3)] at h
 refine ref04_Write_ok (by omega) o (cond_ok (fun h2=>?_) (fun h2=>?_))
 ·rw [if_pos (by simpa using h2)] at h;exact h
 rw [if_neg (by simpa using h2)] at h
 have o2:=write_ok (i:=i+2) (data:=data) o h64
 exact ref04_Flush_ok (N:=N+1) (by omega) o2 h
def allN (d:Disk):Nat->List Str×Int
 | 0=>([],0)
 | n+1=>if (allN d n).2≠0 then allN d n else if (aReadV d n).2≠0 then([],(aReadV d n).2)else((allN d n).1++[(aReadV d n).1],0)
def allV (d:Disk):List Str×Int:=allN d (d.sure.length - 2)
theorem allN_len {d:Disk}:∀ {n:Nat},(allN d n).2=0->(allN d n).1.length=n
 | 0,_=>rfl
 | n+1,h=>by
  unfold allN at h ⊢
  split at h
  ·rename_i h1;exact absurd h h1
  ·rename_i h1
   rw [if_neg h1]
   split at h
   ·rename_i h2;exact absurd h h2
   ·rename_i h2
    rw [if_neg h2]
    simp [allN_len (n:=n) (Classical.not_not.1 h1)]
theorem allN_bad {d:Disk} {n:Nat} (h:(allN d n).2≠0):∀ m,n≤m->allN d m=allN d n:=by
 intro m hm
 induction m with
 | zero=>have:n=0:=by omega
         subst this;rfl
 | succ m ih=>
  by_cases e:n=m+1
  ·subst e;rfl
  ·have:=ih (by omega)
   show(if (allN d m).2≠0 then _ else _)=_
   rw [this,if_pos h]
theorem ref09_All_ok {N:Nat} {d:Disk} (hN:N≤10000) (o:OkD N d) {K:(List Str×Int)->Prop} (h:K (allV d)):q42.F d K:=by
 have hs:=o.s
 unfold q42.F q42.FV
 refine loop_ok (I:=fun x:q42.L0=>∃ k:Nat,k≤d.sure.length - 2∧(allN d k).2=0∧x=⟨(allN d k).1,k,d⟩) (m:=fun x:q42.L0=>d.sure.length - x.i.toNat) ?_ ⟨0,by omega,rfl,rfl⟩
 rintro _ ⟨k,hk,he,rfl⟩ rec hrec
 unfold q42.b0V
 dsimp only
 rw [sub2 (by omega)]
 refine cond_ok (fun h1=>?_) (fun h1=>?_)
 ·have h1:(k:Int) < (d.sure.length:Int) - 2:=of_decide_eq_true h1
  have h1:k < d.sure.length - 2:=by omega
  refine ref09_Read_ok (N:=N) (by omega) o (cond_ok (fun h2=>?_) (fun h2=>?_))
  ·have h2:(aReadV d k).2≠0:=by simpa using h2
   have e1:allN d (k+1)=([],(aReadV d k).2):=by
    show(if (allN d k).2≠0 then _ else _)=_
    rw [if_neg (by simp [he]),if_pos h2]
   have e2:=allN_bad (n:=k+1) (by rw [e1];exact h2) (d.sure.length - 2) (by omega)
   unfold allV at h
   rw [e2,e1] at h
   exact h
  ·have h2:(aReadV d k).2=0:=by simpa using h2
   have e1:allN d (k+1)=((allN d k).1++[(aReadV d k).1],0):=by
    show(if (allN d k).2≠0 then _ else _)=_
    rw [if_neg (by simp [he]),if_neg (by simp [h2])]
   have hl:=allN_len he
   refine gd_ok (fit_ok (by simp;omega)) (hrec _ ⟨k+1,by omega,by rw [e1],?_⟩ ?_)
   ·rw [wrap_lt h1 (by unfold big;omega),e1]
   ·rw [wrap_lt h1 (by unfold big;omega)]
    dsimp only
    omega
 ·have h1:¬ (k:Int) < (d.sure.length:Int) - 2:=of_decide_eq_false h1
  have e:k=d.sure.length - 2:=by omega
  unfold allV at h
  rw [← e] at h
  rw [show allN d k=((allN d k).1,(allN d k).2) from rfl,he] at h
  exact h
end Gm

set_option maxRecDepth 100000
namespace Gm
open Go
def supN (b g:Int):Super:=⟨b,⟨g,0,0,0⟩,false,false,false⟩
def sB (b g:Nat):Str:=[71,77,1]++[UInt8.ofNat b,0]++be g 8++be 0 8++be 0 8++be 0 8
theorem sB_length (b g:Nat):(sB b g).length=37:=by simp [sB,be_length]
theorem u8s {b:Nat} (h:b≤32) (x:Nat):bytesOfInts [IntKind.u8.wrap (b:Int),(x:Int)]=[UInt8.ofNat b,UInt8.ofNat x]:=by
 simp only [bytesOfInts,List.map_cons,List.map_nil,Int.toNat_natCast]
 rw [wrap_u8,show(b:Int) % 256=(b:Int) by omega]
 rfl
theorem ref06_Right_ok {b:Int} {g:Nat} {K:Bool->Prop} (k:K (decide (1≤b∧b≤32∧g≠0))):q13.F (supN b g) K:=by
 unfold q13.F supN
 refine cond_ok (fun h1=>?_) (fun h1=>?_)
 ·have h1:b≥1:=of_decide_eq_true h1
  refine cond_ok (fun h2=>?_) (fun h2=>?_)
  ·have h2:b≤32:=of_decide_eq_true h2
   by_cases hg:g=0
   ·subst hg
    rw [decide_eq_false (by simp)] at k;exact k
   ·rw [decide_eq_true ⟨h1,h2,hg⟩] at k
    rw [show ((g:Int) != 0)=true by simp;omega]
    exact k
  ·have h2:¬ b≤32:=of_decide_eq_false h2
   rw [decide_eq_false (by omega)] at k;exact k
 ·have h1:¬ b≥1:=of_decide_eq_false h1
  rw [decide_eq_false (by omega)] at k;exact k
theorem ref06_bytes_ok {b g:Nat} (h2:b≤32) (hg:g < 18446744073709551616) {K:Str->Prop} (k:K (sB b g)):q17.F (supN b g) K:=by
 unfold q17.F q17.FV
 dsimp only [supN]
 refine ref01_Flags_ok (ref01_Put64_ok (by omega) (gd_ok (fits_small (by simp [bytesOfInts,be_length])) ?_))
 refine ref01_Put64_ok (n:=0) (by omega) (gd_ok (fits_small (by simp [bytesOfInts,be_length])) ?_)
 refine ref01_Put64_ok (n:=0) (by omega) (gd_ok (fits_small (by simp [bytesOfInts,be_length])) ?_)
 refine ref01_Put64_ok (n:=0) (by omega) (gd_ok (fits_small (by simp [bytesOfInts,be_length])) ?_)
 rw [u8s (by omega)]
 exact k
theorem ref06_Encode_ok {b:Int} {g:Nat} (hg:g < 18446744073709551616) {K:(Str×Int)->Prop} (k:K (if 1≤b∧b≤32∧g≠0 then(sealV (sB b.toNat g),0)else([],1))):q21.F (supN b g) K:=by
 unfold q21.F q21.FV
 refine ref06_Right_ok (cond_ok (fun h3=>?_) (fun h3=>?_))
 ·rw [if_neg (by intro hh;rw [decide_eq_true hh] at h3;cases h3)] at k;exact k
 have h3:1≤b∧b≤32∧g≠0:=by
  cases hd:decide (1≤b∧b≤32∧g≠0) with
  | true=>exact of_decide_eq_true hd
  | false=>rw [hd] at h3;cases h3
 rw [if_pos h3] at k
 obtain ⟨b,rfl⟩:∃ n:Nat,b=n:=⟨b.toNat,by omega⟩
 exact ref06_bytes_ok (by omega) hg (ref02_Seal_ok (wStr_of (by rw [sB_length];decide)) k)
def bare (s:List Str):Disk:=⟨s,[],0,false⟩
theorem bare_okD {N:Nat} {s:List Str} (h:s.length≤N) (h2:∀ x∈s,x.length≤N):OkD N (bare s):=
 ⟨h,Nat.zero_le _,(fun w h=>by cases h),in0,(by show(0:Int)≤0;omega),h2,(fun w h=>by cases h)⟩
def nought:Str:=[0,0,0,0,0,0,0,0]
def fmtS (b g:Nat):List Str:=sealV (sB b g) :: sealV (be 0 4) :: List.replicate b nought
def noD:Disk:=⟨[],[],0,false⟩
def fmtV (b:Int) (g:Nat):Disk×Int:=if 1≤b∧b≤32∧g≠0 then(bare (fmtS b.toNat g),0)else(noD,1)
theorem ref09_Format_ok {b:Int} {g:Nat} (hg:g < 18446744073709551616) {K:(Disk×Int)->Prop} (k:K (fmtV b g)):q23.F b g K:=by
 unfold q23.F q23.FV
 unfold fmtV at k
 refine ref06_Encode_ok hg ?_
 by_cases h:1≤b∧b≤32∧g≠0
 case neg=>
  rw [if_neg h] at k ⊢
  exact cond_t rfl k
 rw [if_pos h] at k ⊢
 obtain ⟨b,rfl⟩:∃ n:Nat,b=n:=⟨b.toNat,by omega⟩
 rw [Int.toNat_natCast] at k ⊢
 refine cond_f (by simp) (ref01_Put32_ok (n:=0) (by decide) (ref02_Seal_ok (wStr_of (by simp [be_length])) ?_))
 refine loop_ok (I:=fun x:q23.L0=>∃ (j:Nat),j≤b∧x=⟨b,j,⟨[],[],0,false⟩,sealV (sB b g) :: sealV (be 0 4) :: List.replicate j nought,0,false⟩) (m:=fun x:q23.L0=>b - x.i.toNat) ?_ ⟨0,by omega,rfl⟩
 rintro _ ⟨j,hj,rfl⟩ rec hrec
 unfold q23.b0V
 dsimp only
 refine cond_ok (fun h3=>?_) (fun h3=>?_)
 ·have h3:=lt_of_dec h3
  unfold q22.F
  refine gd_ok (fit_ok (by simp;omega)) (hrec _ ⟨j+1,by omega,?_⟩ ?_)
  ·rw [wrap_lt h3 (by unfold big;omega),List.replicate_succ']
   rfl
  ·rw [wrap_lt h3 (by unfold big;omega)]
   dsimp only
   omega
 ·have e:=le_of_dec h3 hj
  subst e
  exact k
end Gm

set_option maxRecDepth 100000
namespace Gm
open Go
theorem flush_okD {N:Nat} {d:Disk} (o:OkD N d):OkD N (flushV d).1:=by
 have hf:-9223372036854775808≤d.fuse∧d.fuse≤9223372036854775807:=o.f
 have hp:=o.p
 have b0:=bare_ok o (ws:=d.cache) (fun w h=>h)
 unfold flushV
 split
 ·exact o
 split
 ·exact b0
 split
 ·exact crash_ok o
 ·exact⟨b0.s,b0.c,b0.r,⟨by show(-9223372036854775808:Int)≤d.fuse - 1;omega,by show d.fuse - 1≤(9223372036854775807:Int);omega⟩,by show(0:Int)≤d.fuse - 1;omega,b0.ds,b0.dc⟩
theorem more_okD {N:Nat} {d:Disk} (o:OkD N d):OkD (N+1) d:=
 ⟨Nat.le_succ_of_le o.s,Nat.le_succ_of_le o.c,o.r,o.f,o.p,fun s hs=>Nat.le_succ_of_le (o.ds s hs),fun w hw=>Nat.le_succ_of_le (o.dc w hw)⟩
theorem put_okD {N:Nat} {d:Disk} {i:Int} {data:Str} (o:OkD N d) (h64:64≤N):OkD (N+1) (putV d i data).1:=by
 unfold putV
 split
 ·split
  ·split
   ·exact write_ok o h64
   ·exact flush_okD (write_ok o h64)
  ·exact more_okD o
 ·exact more_okD o
theorem number_ok {b:Str} {i n:Nat} (h:i+8≤b.length) (h2:i≤1000) (e:unbe (sub b i (i+8))=n) {K:Int->Prop} (k:K (n:Int)):q31.F b i K:=by
 unfold q31.F q31.FV
 rw [wrap_i64 (x:=(i:Int)+8) (by omega)]
 refine gd_ok (by simp;omega) ?_
 rw [show Int.toNat ((i:Int)+8)=i+8 by omega,show Int.toNat (i:Int)=i by omega]
 refine ref01_Get64_ok ?_
 rw [getN_of (by rw [sub_len h];omega),e]
 exact k
end Gm
