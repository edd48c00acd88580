/- The program's node: it is the same as itself. -/
import Derived.Test.YtfjhdboapcckpaaGreatDoorGdN1
set_option maxRecDepth 100000
namespace Gm
open Go
theorem eqStr_ok {l:List Str} (h:l.length≤1000000) {K:Bool->Prop} (k:K true):q98.F l l K:=by
 unfold q98.F
 refine cond_f (by simp) ?_
 refine loop_ok (I:=fun x:q98.L0=>∃ j:Nat,j≤l.length∧x=⟨l,l,l.length,j⟩) (m:=fun x:q98.L0=>l.length - x.t13.toNat) ?_ ⟨0,by omega,rfl⟩
 rintro _ ⟨j,hj,rfl⟩ rec hrec
 unfold q98.b0
 dsimp only
 refine cond_ok (fun h=>?_) (fun _=>k)
 have hlt:=lt_of_dec h
 rw [wrap_lt hlt (by unfold big;omega)]
 exact oget_ok (getI_ok hlt) (oget_ok (getI_ok hlt) (cond_f (by simp) (hrec _ ⟨j+1,hlt,rfl⟩ (by dsimp only;omega))))
theorem eqWrite_ok {l:List Write} (h:l.length≤1000000) {K:Bool->Prop} (k:K true):q99.F l l K:=by
 unfold q99.F
 refine cond_f (by simp) ?_
 refine loop_ok (I:=fun x:q99.L0=>∃ j:Nat,j≤l.length∧x=⟨l,l,l.length,j⟩) (m:=fun x:q99.L0=>l.length - x.t13.toNat) ?_ ⟨0,by omega,rfl⟩
 rintro _ ⟨j,hj,rfl⟩ rec hrec
 unfold q99.b0
 dsimp only
 refine cond_ok (fun h=>?_) (fun _=>k)
 have hlt:=lt_of_dec h
 rw [wrap_lt hlt (by unfold big;omega)]
 exact oget_ok (getI_ok hlt) (oget_ok (getI_ok hlt) (cond_f (by simp) (hrec _ ⟨j+1,hlt,rfl⟩ (by dsimp only;omega))))
theorem eqU64_ok {l:List Int} (h:l.length≤1000000) {K:Bool->Prop} (k:K true):q102.F l l K:=by
 unfold q102.F
 refine cond_f (by simp) ?_
 refine loop_ok (I:=fun x:q102.L0=>∃ j:Nat,j≤l.length∧x=⟨l,l,l.length,j⟩) (m:=fun x:q102.L0=>l.length - x.t13.toNat) ?_ ⟨0,by omega,rfl⟩
 rintro _ ⟨j,hj,rfl⟩ rec hrec
 unfold q102.b0
 dsimp only
 refine cond_ok (fun h=>?_) (fun _=>k)
 have hlt:=lt_of_dec h
 rw [wrap_lt hlt (by unfold big;omega)]
 exact oget_ok (getI_ok hlt) (oget_ok (getI_ok hlt) (cond_f (by simp) (hrec _ ⟨j+1,hlt,rfl⟩ (by dsimp only;omega))))
theorem eqMint_ok {l:List Mint} (h:l.length≤1000000) {K:Bool->Prop} (k:K true):q103.F l l K:=by
 unfold q103.F
 refine cond_f (by simp) ?_
 refine loop_ok (I:=fun x:q103.L0=>∃ j:Nat,j≤l.length∧x=⟨l,l,l.length,j⟩) (m:=fun x:q103.L0=>l.length - x.t13.toNat) ?_ ⟨0,by omega,rfl⟩
 rintro _ ⟨j,hj,rfl⟩ rec hrec
 unfold q103.b0
 dsimp only
 refine cond_ok (fun h=>?_) (fun _=>k)
 have hlt:=lt_of_dec h
 rw [wrap_lt hlt (by unfold big;omega)]
 exact oget_ok (getI_ok hlt) (oget_ok (getI_ok hlt) (cond_f (by simp) (hrec _ ⟨j+1,hlt,rfl⟩ (by dsimp only;omega))))
theorem storeSameP_ok {s:Store} (h1:s.disk.sure.length≤1000000) (h2:s.disk.cache.length≤1000000) {K:Bool->Prop} (k:K true):q101.F s s K:=by
 unfold q101.F q101.FV q100.F q100.FV
 refine eqStr_ok h1 (cond_t rfl (eqWrite_ok h2 (cond_t rfl (cond_t (by simp) ?_))))
 refine cond_t (by simp) (cond_t (by simp) (use_eq k ?_))
 simp
theorem nodeSameP_ok {N:Nat} {n:Node} (hN:N≤1000000) (o:OkN N n) {K:Bool->Prop} (k:K true):q104.F n n K:=by
 unfold q104.F q104.FV
 have h1:=o.st.d.s
 have h2:=o.st.d.c
 have h3:=o.dl
 have h4:=o.ml
 exact cond_t (by simp) (storeSameP_ok (by omega) (by omega) (cond_t rfl (eqU64_ok (by omega) (cond_t rfl (eqMint_ok (by omega) k)))))
theorem nodeOther_ok {a b:Node} (h:(a.primary==b.primary)=false) {K:Bool->Prop} (k:K false):q104.F a b K:=by
 unfold q104.F q104.FV
 refine cond_f ?_ k
 rw [h]
 simp
end Gm

set_option maxRecDepth 100000
namespace Gm
open Go
theorem num_get_ok {s:Str} (hs:s.length≤8) {K:Int->Prop} (h:K (unbe s)):q83.F s K:=by
 unfold q83.F
 refine loop_ok (I:=fun x:q83.L0=>∃ i:Nat,i≤s.length∧x=⟨s,unbe (s.take i),s.length,i⟩) (m:=fun x:q83.L0=>s.length - x.t6.toNat) ?_ ⟨0,by simp,rfl⟩
 rintro _ ⟨i,hi,rfl⟩ rec hrec
 unfold q83.b0
 dsimp only
 refine cond_ok (fun h1=>?_) (fun h1=>?_)
 ·have hlt:i < s.length:=by simpa using h1
  refine oget_ok (getI_ok hlt) ?_
  rw [wrap_i64 (x:=(i:Int)+1) (by omega)]
  refine hrec _ ⟨i+1,hlt,?_⟩ (by simp;omega)
  congr 1
  have h2:=unbe_lt i (s.take i) (by simp;omega)
  have h3:=pow256 (i:=i) (by omega)
  have h4:=u8_lt s[i]
  rw [unbe_take hlt]
  generalize unbe (s.take i)=y at *
  generalize s[i].toNat=z at *
  have e1:=ishl_nat (k:=.u64) rfl y (y:=8) (by decide)
  rw [show ((8:Nat):Int)=8 from rfl] at e1
  rw [e1,show IntKind.u64.wrap (z:Int)=(z:Int) by rw [wrap_u64];omega]
  have e2:y * 2 ^ 8 % 2 ^ IntKind.u64.bits=2 ^ 8 * y:=by
   show y * 256 % 18446744073709551616=256 * y
   omega
  rw [e2,ior_nat (k:=.u64) rfl (by show 2 ^ 8 * y < 2 ^ 64;omega) (by show z < 2 ^ 64;omega),← Nat.two_pow_add_eq_or_of_lt (by omega)]
  omega
 ·have hlt:i=s.length:=by have:¬ i < s.length:=by simpa using h1
                          omega
  subst hlt
  simpa using h
theorem num_Unflag_ok {b:Nat} (hb:b < 256) {n:Int} {K:(List Bool×Bool)->Prop} (h:K (unflag b n)):q89.F b n K:=by
 unfold q89.F
 unfold unflag at h
 refine cond_ok (fun h1=>?_) (fun h1=>?_)
 ·have h1:n < 0:=of_decide_eq_true h1
  rw [if_neg (by omega)] at h
  exact h
 have h1:¬ n < 0:=of_decide_eq_false h1
 refine cond_ok (fun h2=>?_) (fun h2=>?_)
 ·have h2:n > 8:=of_decide_eq_true h2
  rw [if_neg (by omega)] at h
  exact h
 have h2:¬ n > 8:=of_decide_eq_false h2
 obtain ⟨k,rfl⟩:∃ k:Nat,n=k:=⟨n.toNat,by omega⟩
 simp only [Int.toNat_natCast] at h ⊢
 refine gd_ok (by simp) ?_
 have e0:=ishr_nat (k:=.u8) b (y:=k) (by show k≤8;omega)
 rw [e0]
 refine cond_ok (fun h3=>?_) (fun h3=>?_)
 ·have h3:¬ b / 2 ^ k=0:=by
   intro e;rw [e] at h3;simp at h3
  rw [if_neg (by simp [h3])] at h
  exact h
 ·have h3:b / 2 ^ k=0:=by
   have:((b / 2 ^ k:Nat):Int)=0:=by
    rcases Bool.eq_false_or_eq_true (((b / 2 ^ k:Nat):Int)==0) with h4 | h4
    ·exact eq_of_beq h4
    ·rw [bne,h4] at h3;cases h3
   omega
  rw [if_pos ⟨by omega,by omega,h3⟩] at h
  refine gd_ok (by simp [room];omega) ?_
  refine loop_ok (I:=fun x:q89.L0=>∃ i:Nat,i≤k∧x=⟨b,unf b i++List.replicate (k - i) false,k,i⟩) (m:=fun x:q89.L0=>k - x.t24.toNat) ?_ ⟨0,by simp,by simp [unf]⟩
  rintro _ ⟨i,hi,rfl⟩ rec hrec
  unfold q89.b0
  dsimp only
  refine cond_ok (fun h4=>?_) (fun h4=>?_)
  ·have hlt:i < k:=by simpa using h4
   refine gd_ok (by simp) ?_
   refine gd_ok (by simp [unf];omega) ?_
   rw [wrap_i64 (x:=(i:Int)+1) (by omega)]
   refine hrec _ ⟨i+1,hlt,?_⟩ (by simp;omega)
   congr 1
   have e1:=ishr_nat (k:=.u8) b (y:=i) (by show i≤8;omega)
   have hq:b / 2 ^ i < 256:=Nat.lt_of_le_of_lt (Nat.div_le_self _ _) hb
   have e2:=iand_nat (k:=.u8) rfl (x:=b / 2 ^ i) (y:=1) hq (by decide)
   rw [e1,show(1:Int)=((1:Nat):Int) from rfl,e2,Nat.and_one_is_mod,unf_take b i]
   rw [show k - i=k - (i+1)+1 by omega,List.replicate_succ]
   have e3:=set_mid (unf b i) false ((((b / 2 ^ i % 2:Nat):Int))==((1:Nat):Int)) (List.replicate (k - (i+1)) false)
   rw [unf_length] at e3
   rw [Int.toNat_natCast,e3,List.append_assoc]
   congr 2
   rcases Nat.mod_two_eq_zero_or_one (b / 2 ^ i) with h5 | h5 <;> rw [h5] <;> rfl
  ·have hlt:i=k:=by have:¬ i < k:=by simpa using h4
                    omega
   subst hlt
   simpa using h
theorem num_Get32_ok {s:Str} {K:(Int×Bool)->Prop} (h:K (getN s 4)):q84.F s K:=by
 unfold q84.F q84.FV
 unfold getN at h
 refine cond_ok (fun h1=>?_) (fun h1=>?_)
 ·rw [if_neg (bne_nat (b:=4) h1)] at h;exact h
 ·have h2:=bne_nat' (b:=4) h1
  rw [if_pos h2] at h
  refine num_get_ok (by omega) ?_
  have:=unbe_lt 4 s h2
  rw [show IntKind.u32.wrap (unbe s:Int)=(unbe s:Int) by rw [wrap_u32];omega]
  exact h
theorem num_Get64_ok {s:Str} {K:(Int×Bool)->Prop} (h:K (getN s 8)):q90.F s K:=by
 unfold q90.F q90.FV
 unfold getN at h
 refine cond_ok (fun h1=>?_) (fun h1=>?_)
 ·rw [if_neg (bne_nat (b:=8) h1)] at h;exact h
 ·have h2:=bne_nat' (b:=8) h1
  rw [if_pos h2] at h
  exact num_get_ok (by omega) h
theorem check_Open_ok {s:Str} (hs:wStr s) {K:(Str×Int)->Prop} (h:K (openV s)):q85.F s K:=by
 unfold q85.F q85.FV
 have hb:s.length≤140737488351232:=hs
 rw [wrap_i64 (x:=(s.length:Int) - 4) (by omega)]
 unfold openV at h
 refine cond_ok (fun h1=>?_) (fun h1=>?_)
 ·have h1:(s.length:Int) - 4 < 0:=of_decide_eq_true h1
  rw [if_pos (by omega)] at h
  exact h
 ·have h1:¬ (s.length:Int) - 4 < 0:=of_decide_eq_false h1
  rw [if_neg (by omega)] at h
  have g1:(decide (0≤(s.length:Int) - 4)&&decide ((s.length:Int) - 4≤(s.length:Int)))=true:=by
   simp;omega
  have e1:((s.length:Int) - 4).toNat=s.length - 4:=by omega
  rw [e1,sub_take,sub_drop]
  refine gd_ok g1 (num_Get32_ok (gd_ok g1 (check_Sum_ok ?_ ?_)))
  ·unfold wStr;simp;omega
  ·have hd:(s.drop (s.length - 4)).length=4:=by simp;omega
   have hu:(getN (s.drop (s.length - 4)) 4).1=(unbe (s.drop (s.length - 4)):Int):=by
    unfold getN;rw [if_pos hd]
   rw [hu]
   have hsplit:s.take (s.length - 4)++s.drop (s.length - 4)=s:=List.take_append_drop _ _
   refine cond_ok (fun h2=>?_) (fun h2=>?_)
   ·have h2:=bne_nat h2
    rw [if_neg ?_] at h
    ·exact h
    ·intro he
     apply h2
     unfold sealV at he
     have h3:be (fnv (s.take (s.length - 4))) 4=s.drop (s.length - 4):=by
      have:=he.trans hsplit.symm
      exact List.append_cancel_left this
     rw [← h3,unbe_be]
     have:=fnv_lt (s.take (s.length - 4))
     omega
   ·have h2:=bne_nat' h2
    rw [if_pos ?_] at h
    ·exact gd_ok g1 h
    ·unfold sealV
     rw [← h2,be_unbe 4 _ hd,hsplit]
end Gm

set_option maxRecDepth 100000
namespace Gm
open Go
def zv (s:Super):Super:=⟨s.blocks,zV,s.inc,s.pri,s.dis⟩
def un (t:Str) (i:Nat):Int:=(unbe (sub t i (i+8)):Int)
theorem sub_in {t:Str} {i j:Nat}:sub (sub t 2 t.length) i j=sub t (2+i) (2+j):=by
 unfold sub
 rw [List.take_length,List.take_drop,List.drop_drop]
theorem hasPre_ok {p t:Str} {K:Bool->Prop} (k:K true):q86.F (p++t) p K:=by
 unfold q86.F
 have:(p++t).length=p.length+t.length:=by simp
 refine cond_t (decide_eq_true (by omega)) (gd_ok (by simp;omega) ?_)
 refine use_eq k ?_
 rw [Int.toNat_natCast,sub_take,List.take_left,beq_self_eq_true]
theorem cutPre_ok {p t:Str} {K:(Str×Bool)->Prop} (k:K (t,true)):q88.F (p++t) p K:=by
 unfold q88.F q88.FV q87.F q87.FV
 have:(p++t).length=p.length+t.length:=by simp
 refine hasPre_ok (cond_f rfl (gd_ok (by simp;omega) ?_))
 refine use_eq k ?_
 rw [Int.toNat_natCast,sub_drop,List.drop_left]
theorem sup_at {t:Str}:sOfBytes ([71,77,1]++t)=⟨((t.getD 0 0).toNat:Int),⟨un t 2,un t 10,un t 18,un t 26⟩,bit (t.getD 1 0) 0,bit (t.getD 1 0) 1,bit (t.getD 1 0) 2⟩:=rfl
theorem get64_in {t:Str} (hl:t.length=34) {i:Nat} (hi:2+i+8≤34) {K:(Int×Bool)->Prop} (k:K (un t (2+i),true)):q90.F (sub (sub t 2 t.length) i (i+8)) K:=by
 refine num_Get64_ok ?_
 rw [sub_in]
 unfold getN
 rw [if_pos (by rw [sub_len (by omega)];omega)]
 exact k
theorem parts_ok {t:Str} (hl:t.length=34) {b:Int} {i p d:Bool} (hb:inK .i64 b) (hs:supR ⟨b,⟨un t 2,un t 10,un t 18,un t 26⟩,i,p,d⟩=true)
  {X:Prop} {Y:(Int×Bool)->(Int×Bool)->(Int×Bool)->(Int×Bool)->Bool->Prop} (k:Y (un t 2,true) (un t 10,true) (un t 18,true) (un t 26,true) true) :
  (bif(((sub t (Int.toNat 2) t.length).length:Int) != 32)then X else(bif(decide (0≤0)&&decide (0≤8)&&decide (8≤((sub t (Int.toNat 2) t.length).length:Int)))then(q90.F (sub (sub t (Int.toNat 2) t.length) (Int.toNat 0) (Int.toNat 8)) fun r19=>(bif(decide (0≤8)&&decide (8≤16)&&decide (16≤((sub t (Int.toNat 2) t.length).length:Int)))then(q90.F (sub (sub t (Int.toNat 2) t.length) (Int.toNat 8) (Int.toNat 16)) fun r20=>(bif(decide (0≤16)&&decide (16≤24)&&decide (24≤((sub t (Int.toNat 2) t.length).length:Int)))then(q90.F (sub (sub t (Int.toNat 2) t.length) (Int.toNat 16) (Int.toNat 24)) fun r21=>(bif(decide (0≤24)&&decide (24≤32)&&decide (32≤((sub t (Int.toNat 2) t.length).length:Int)))then(q90.F (sub (sub t (Int.toNat 2) t.length) (Int.toNat 24) (Int.toNat 32)) fun r22=>(q67.F (⟨b,(⟨r19.1,r20.1,r21.1,r22.1⟩:Vec),i,p,d⟩:Super) fun r23=>Y r19 r20 r21 r22 r23))else False))else False))else False))else False)):=by
 have e2:Int.toNat 2=2:=rfl
 have hl2:(sub t 2 t.length).length=32:=by rw [sub_len (Nat.le_refl _)];omega
 rw [e2,hl2]
 refine cond_f rfl (gd_ok rfl (get64_in hl (i:=0) (by decide) (gd_ok rfl (get64_in hl (i:=8) (by decide) (gd_ok rfl (get64_in hl (i:=16) (by decide) (gd_ok rfl (get64_in hl (i:=24) (by decide) ?_))))))))
 refine superRight_ok hb ?_
 exact use_eq k hs.symm
theorem superDecode_ok {s:Super} {b:Str} (eb:b=sealV (sBytes s)) (hw:wSup s) (hr:supR s=true) {K:(Super×Int)->Prop} (k:K (s,0)) (kz:K (zv s,0)):q91.F b K:=by
 unfold q91.F q91.FV
 have hl:=sBytes_length s
 have hb:b.length=41:=by rw [eb,sealV_length,hl]
 have ho:openV b=(sBytes s,0):=by rw [eb,openV_seal]
 refine check_Open_ok (wStr_of (by omega)) ?_
 rw [ho]
 refine cond_f rfl ?_
 obtain ⟨hs,h7⟩:=sOf_sBytes hw hr
 have ht:sBytes s=[71,77,1]++(sBytes s).drop 3:=rfl
 have htl:((sBytes s).drop 3).length=34:=by simp [hl]
 rw [ht] at hs h7 ⊢
 generalize (sBytes s).drop 3=t at hs h7 htl ⊢
 have h7:(t.getD 1 0).toNat≤7:=h7
 rw [sup_at] at hs
 refine cutPre_ok (cond_f rfl (cond_f (decide_eq_false (by dsimp only;omega)) ?_))
 have hu:unflag (t.getD 1 0).toNat 3=([bit (t.getD 1 0) 0,bit (t.getD 1 0) 1,bit (t.getD 1 0) 2],true):=by
  unfold unflag
  rw [if_pos ⟨by decide,by decide,by show _ / 2 ^ 3=0;omega⟩]
  rfl
 refine oget_ok (getI_lit 0 (i:=1) (by dsimp only;omega)) (num_Unflag_ok (u8_lt _) ?_)
 rw [hu]
 refine cond_f rfl (oget_ok (getI_lit 0 (i:=0) (by dsimp only;omega)) (oget_ok rfl (oget_ok rfl (oget_ok rfl (gd_ok (by simp [htl]) ?_)))))
 have e0:IntKind.i64.wrap ((t.getD 0 0).toNat:Int)=((t.getD 0 0).toNat:Int):=by
  have:=u8_lt (t.getD 0 0)
  rw [wrap_i64 (by omega)]
 have hb:inK .i64 ((t.getD 0 0).toNat:Int):=i64_of (by have:=u8_lt (t.getD 0 0);omega)
 rw [← hs] at hr k kz
 dsimp only at *
 rw [e0]
 refine⟨⟨⟨parts_ok htl hb hr (cond_f rfl ⟨⟨kz,trivial⟩,trivial⟩),trivial⟩,trivial⟩,⟨⟨⟨parts_ok htl hb hr (cond_f rfl ⟨⟨kz,trivial⟩,trivial⟩),trivial⟩,⟨parts_ok htl hb hr (cond_f rfl ⟨⟨⟨k,trivial⟩,trivial⟩,trivial⟩),trivial⟩⟩,trivial⟩⟩
end Gm

set_option maxRecDepth 100000
namespace Gm
open Go
theorem metaLoad_by {N:Nat} {d:Disk} {s:Super} {b:Str} (hN:N≤100000) (o:OkD N d) (hd:readV d 0=(b,0)) (hb:∀ K:(Super×Int)->Prop,K (s,0)->K (zv s,0)->q91.F b K) (hf:fitsS d s=true) {K:(Super×Int)->Prop} (k:K (s,0)) (kz:K (zv s,0)):q92.F d K:=by
 unfold q92.F q92.FV
 have hs:=o.s
 refine diskRead_ok hN o ?_
 have hz:fitsS d (zv s)=true:=hf
 rw [hd]
 refine cond_f rfl (hb _ (cond_t rfl (fitsM_ok (by omega) ?_)) (cond_t rfl (fitsM_ok (by omega) ?_)))
 ·rw [hf]
  exact cond_f rfl k
 ·rw [hz]
  exact cond_f rfl kz
theorem metaLoad_ok {N:Nat} {d:Disk} {s:Super} {b:Str} (hN:N≤100000) (o:OkD N d) (hd:readV d 0=(b,0)) (eb:b=sealV (sBytes s)) (hw:wSup s) (hr:supR s=true) (hf:fitsS d s=true) {K:(Super×Int)->Prop} (k:K (s,0)) (kz:K (zv s,0)):q92.F d K:=by
 have hb:∀ K:(Super×Int)->Prop,K (s,0)->K (zv s,0)->q91.F b K:=fun _=>superDecode_ok eb hw hr
 exact metaLoad_by hN o hd hb hf k kz
theorem bitsLoad_ok {N:Nat} {d:Disk} (hN:N≤100000) (o:OkD N d) {K:(Int×Int)->Prop} (h:K (loadV d)):q94.F d K:=by
 unfold q94.F q94.FV q93.F q93.FV
 have hs:=o.s
 have hc:=o.c
 have hl:=read_le o 1
 refine diskRead_ok hN o ?_
 unfold loadV at h
 refine cond_ok (fun h1=>?_) (fun h1=>?_)
 ·have h1:(readV d 1).2≠0:=by simpa using h1
  rw [if_pos h1] at h;exact h
 have h1:(readV d 1).2=0:=by simpa using h1
 rw [if_neg (by simp [h1])] at h
 refine check_Open_ok (wStr_of (by omega)) (cond_ok (fun h2=>?_) (fun h2=>?_))
 ·have h2:(openV (readV d 1).1).2≠0:=by simpa using h2
  rw [if_pos h2] at h;exact h
 have h2:(openV (readV d 1).1).2=0:=by simpa using h2
 rw [if_neg (by simp [h2])] at h
 refine num_Get32_ok ?_
 unfold getN
 by_cases h3:(openV (readV d 1).1).1.length=4
 ·rw [if_pos h3]
  refine cond_f rfl ?_
  have hlt:=unbe_lt 4 _ h3
  rw [sub2 (by omega)]
  refine mask_Right_ok (inK32 (by omega)) (in_sub2 (by omega)) (cond_ok (fun h4=>?_) (fun h4=>?_))
  ·rw [if_neg (by rintro ⟨_,h5⟩;rw [h5] at h4;cases h4)] at h;exact h
  ·rw [if_pos ⟨h3,by simpa using h4⟩] at h;exact h
 ·rw [if_neg h3]
  rw [if_neg (by rintro ⟨h5,_⟩;exact h3 h5)] at h
  exact cond_t rfl h
theorem areaAll_ok {N:Nat} {d:Disk} (hN:N≤10000) (o:OkD N d) (h2:2≤d.sure.length) {K:(List Str×Int)->Prop} (h:K (allV d)):q95.F d K:=by
 have hs:=o.s
 unfold q95.F q95.FV
 have em:maxI2 (IntKind.i64.wrap ((d.sure.length:Int) - 2)) 0=((d.sure.length - 2:Nat):Int):=by
  rw [sub2 (by omega)]
  unfold maxI2
  split <;> omega
 rw [em]
 refine loop_ok (I:=fun x:q95.L0=>∃ k:Nat,k≤d.sure.length - 2∧(allN d k).2=0∧x=⟨(allN d k).1,((d.sure.length - 2:Nat):Int),k,d⟩) (m:=fun x:q95.L0=>d.sure.length - x.t13.toNat) ?_ ⟨0,by omega,rfl,rfl⟩
 rintro _ ⟨k,hk,he,rfl⟩ rec hrec
 unfold q95.b0V
 dsimp only
 refine cond_ok (fun h1=>?_) (fun h1=>?_)
 ·have h1:(k:Int) < ((d.sure.length - 2:Nat):Int):=of_decide_eq_true h1
  have h1:k < d.sure.length - 2:=by omega
  refine areaRead_ok (N:=N) (by omega) o (cond_ok (fun h2=>?_) (fun h2=>?_))
  ·have h2:(aReadV d k).2≠0:=by simpa using h2
   have e1:allN d (k+1)=([],(aReadV d k).2):=by
    show(if (allN d k).2≠0 then _ else _)=_
    rw [if_neg (by simp [he]),if_pos h2]
   have e2:=allN_bad (n:=k+1) (by rw [e1];exact h2) (d.sure.length - 2) (by omega)
   unfold allV at h
   rw [e2,e1] at h
   exact h
  ·have h2:(aReadV d k).2=0:=by simpa using h2
   have e1:allN d (k+1)=((allN d k).1++[(aReadV d k).1],0):=by
    show(if (allN d k).2≠0 then _ else _)=_
    rw [if_neg (by simp [he]),if_neg (by simp [h2])]
   have hl:=allN_len he
   refine gd_ok (fit_ok (by simp;omega)) (hrec _ ⟨k+1,by omega,by rw [e1],?_⟩ ?_)
   ·rw [wrap_succ (by unfold big;omega),e1]
   ·rw [wrap_succ (by unfold big;omega)]
    dsimp only
    omega
 ·have h1:¬ (k:Int) < ((d.sure.length - 2:Nat):Int):=of_decide_eq_false h1
  have:k=d.sure.length - 2:=by omega
  subst this
  unfold allV at h
  rw [← he]
  exact h
theorem kept_snoc:∀ (ws:List Write) (ks:List Bool) (w:Write),keptW (ws++[w]) ks=keptW ws ks++(if ks.getD ws.length false=true then [w] else [])
 | [],[],w=>rfl
 | [],k :: ks,w=>by cases k <;> simp [keptW]
 | a :: ws,[],w=>by simp [keptW]
 | a :: ws,k :: ks,w=>by
  have e:=kept_snoc ws ks w
  show keptW (a :: (ws++[w])) (k :: ks)=_
  unfold keptW
  split
  ·rw [e];rfl
  ·rw [e];rfl
theorem diskRevive_ok {d:Disk} {keeps:List Bool} (h1:d.sure.length≤1000000) (h2:d.cache.length≤1000000) (hr:InR d.sure.length d.cache) {K:Disk->Prop} (h:K (reviveV d keeps)):q82.F d keeps K:=by
 unfold q82.F q82.FV
 refine loop_ok (I:=fun x:q82.L0=>∃ i:Nat,i≤d.cache.length∧x=⟨keeps,keptW (d.cache.take i) keeps,d.cache,d.cache.length,i,d,⟨[],[],0,false⟩⟩) (m:=fun x:q82.L0=>d.cache.length - x.t11.toNat) ?_ ⟨0,by simp,by simp [keptW]⟩
 rintro _ ⟨i,hi,rfl⟩ rec hrec
 unfold q82.b0V
 dsimp only
 refine cond_ok (fun h4=>?_) (fun h4=>?_)
 ·have hlt:=lt_of_dec h4
  have e:=kept_snoc (d.cache.take i) keeps d.cache[i]
  rw [← take_succ hlt,List.length_take_of_le hi] at e
  have hk:=kept_length (d.cache.take i) keeps
  rw [List.length_take_of_le hi] at hk
  refine oget_ok (getI_ok hlt) (cond_ok (fun h5=>?_) (fun h5=>?_))
  ·have hlk:=lt_of_dec h5
   rw [List.getD_eq_getElem?_getD,List.getElem?_eq_getElem hlk] at e
   refine oget_ok (getI_ok hlk) (cond_ok (fun h6=>?_) (fun h6=>?_))
   ·refine gd_ok (fit_ok (by simp;omega)) ?_
    rw [wrap_succ (by unfold big;omega)]
    refine hrec _ ⟨i+1,hlt,?_⟩ (by simp;omega)
    rw [e,if_pos (by simpa using h6)]
   ·rw [wrap_succ (by unfold big;omega)]
    refine hrec _ ⟨i+1,hlt,?_⟩ (by simp;omega)
    rw [e,if_neg (by simp [h6]),List.append_nil]
  ·have h5:¬ (i:Int) < (keeps.length:Int):=of_decide_eq_false h5
   rw [List.getD_eq_getElem?_getD,List.getElem?_eq_none (by omega)] at e
   rw [wrap_succ (by unfold big;omega)]
   refine hrec _ ⟨i+1,hlt,?_⟩ (by simp;omega)
   rw [e,if_neg (by simp),List.append_nil]
 ·have e:=le_of_dec h4 hi
  subst e
  rw [List.take_length]
  have hk:=kept_length d.cache keeps
  exact disk_settle_ok h1 (by omega) (fun w m=>hr w (kept_sub d.cache keeps w m)) h
end Gm

set_option maxRecDepth 100000
namespace Gm
open Go
def stZ (r:Store×Int):Store×Int:=if r.2=0 then(⟨r.1.disk,zv r.1.sup,r.1.mask⟩,0)else r
theorem loadS_dw {B:Int} {d:Disk} (h:DW B d) (hd:d.dead=false) (hc:d.cache=[]):∃ (s:Super) (b:Str),readV d 0=(b,0)∧b=sealV (sBytes s)∧wSup s∧supR s=true∧fitsS d s=true∧loadS d=(s,0):=by
 have hl:=h.len
 have h1:=h.one
 have hx:0 < d.sure.length:=by omega
 have hr:=read_sec (d:=d) (x:=0) hd hx (fun w m=>by rw [hc] at m;cases m)
 obtain ⟨s,eb,es,hs,hw⟩:=((h.val 0).1 d.sure[0] (List.getElem?_eq_getElem hx)).1 rfl
 have hf:fitsS d s=true:=beq_iff_eq.2 (by omega)
 have e:decS6 d.sure[0]=(s,0):=(congrArg decS6 eb).trans (decS6_seal hw hs)
 have hr:readV d 0=(d.sure[0],0):=hr
 refine⟨s,d.sure[0],hr,eb,hw,hs,hf,?_⟩
 generalize d.sure[0]=b at hr e
 unfold loadS
 rw [hr]
 dsimp only
 rw [if_neg (by simp),e]
 dsimp only
 rw [if_neg (by simp),if_pos hf]
theorem storeAttachP_ok {N:Nat} {d:Disk} {B:Int} (hN:N≤8000) (o:OkD N d) (h:DW B d) (hd:d.dead=false) (hc:d.cache=[]) {K:(Store×Int)->Prop} (k:K (stAttach d)) (kz:K (stZ (stAttach d))):q96.F d K:=by
 unfold q96.F q96.FV
 obtain ⟨s,b,h1,eb,hw,hr,hf,hl⟩:=loadS_dw h hd hc
 have hlen:=h.len
 have hone:=h.one
 have e:stAttach d=if (loadV d).2≠0 then(zSt,(loadV d).2)else if (allV d).2≠0 then(zSt,(allV d).2)else(⟨d,s,(loadV d).1⟩,0):=by
  unfold stAttach
  rw [hl,if_neg (by simp)]
 rw [e] at k
 refine metaLoad_ok (by omega) o h1 eb hw hr hf (cond_f rfl (bitsLoad_ok (by omega) o (cond_ok (fun h2=>?_) (fun h2=>?_)))) (cond_f rfl (bitsLoad_ok (by omega) o (cond_ok (fun h2=>?_) (fun h2=>?_))))
 ·rw [if_pos (ne_t h2)] at k;exact k
 ·rw [if_neg (fun e=>e (ne_f h2))] at k
  refine areaAll_ok (by omega) o (by omega) (cond_ok (fun h3=>?_) (fun h3=>?_))
  ·rw [if_pos (ne_t h3)] at k;exact k
  ·rw [if_neg (fun e=>e (ne_f h3))] at k;exact k
 ·rw [if_pos (ne_t h2)] at e
  rw [e] at kz
  unfold stZ at kz
  rw [if_neg (ne_t h2)] at kz;exact kz
 ·rw [if_neg (fun e=>e (ne_f h2))] at e
  refine areaAll_ok (by omega) o (by omega) (cond_ok (fun h3=>?_) (fun h3=>?_))
  ·rw [if_pos (ne_t h3)] at e
   rw [e] at kz
   unfold stZ at kz
   rw [if_neg (ne_t h3)] at kz;exact kz
  ·rw [if_neg (fun e=>e (ne_f h3))] at e
   rw [e] at kz
   unfold stZ at kz
   rw [if_pos rfl] at kz;exact kz
def attachZ (n:Node) (keeps:List Bool):Node×Int:=
 if n.up=true then(n,7)
 else if (stZ (stAttach (reviveV n.store.disk keeps))).2≠0 then(setSt n ⟨reviveV n.store.disk keeps,n.store.sup,n.store.mask⟩,(stZ (stAttach (reviveV n.store.disk keeps))).2)
 else(bareN n true (stZ (stAttach (reviveV n.store.disk keeps))).1 false,0)
theorem AttachP_ok {N:Nat} {n:Node} {B:Int} (hN:N≤6800) (o:OkN N n) (h:DW B n.store.disk) {keeps:List Bool} {K:(Node×Int)->Prop} (k:K (attachN n keeps)) (kz:K (attachZ n keeps)):q97.F n keeps K:=by
 unfold q97.F q97.FV
 unfold attachN at k
 unfold attachZ at kz
 have hs:=o.st.d.s
 have hc:=o.st.d.c
 refine cond_ok (fun h=>?_) (fun hu=>?_)
 ·rw [if_pos h] at k;exact k
 rw [if_neg (nt hu)] at k kz
 refine diskRevive_ok (by omega) (by omega) o.st.d.r (storeAttachP_ok (by omega) (revive_ok o.st.d keeps) (dw_revive h keeps) rfl rfl (cond_ok (fun h2=>?_) (fun h2=>?_)) (cond_ok (fun h2=>?_) (fun h2=>?_)))
 ·rw [if_pos (ne_t h2)] at k;exact k
 ·rw [if_neg (fun e=>e (ne_f h2))] at k;exact k
 ·rw [if_pos (ne_t h2)] at kz;exact kz
 ·rw [if_neg (fun e=>e (ne_f h2))] at kz;exact kz
end Gm

set_option maxRecDepth 100000
namespace Gm
open Go
def n16:Node:=(newC 2 7).1.n1
def p16:NO:=promoteN n16 5
def s16:NO:=demoteN p16.1 8
def x16:NO:=discardN s16.1 9
def w16:Node:=downN x16.1
def y16:Node×Int:=attachN w16 []
def z16:Node×Int:=attachZ w16 []
def a16:NO:=readN n16 4 0
def d16:NO:=readN p16.1 6 1
def e16:NO:=discardN p16.1 7
def h16:NO:=promoteN x16.1 10
theorem on16:OkN 64 n16:=okC_new.b
theorem op16:OkN 68 p16.1:=okN_promote on16 (by decide)
theorem os16:OkN 72 s16.1:=okN_demote op16 (by decide)
theorem ox16:OkN 76 x16.1:=okN_discard os16 (by decide)
theorem ow16:OkN 76 w16:=okN_down ox16
theorem nw_n16:NW 2 n16:=by
 have d:=dw_fmt (b:=2) (g:=7) (by decide) (by decide) (by decide)
 have nw:∀ i:Int,NW 2 (newN i 2 7):=fun i=>nw_attach ⟨d,fun e=>by cases e⟩
 unfold n16 newC
 rw [if_neg ?_]
 ·exact nw 1
 ·unfold fmtV
  rw [if_pos (by decide)]
  simp
theorem nw_p16:NW 2 p16.1:=nw_promote on16 (nw_n16.2 (by kernel_rfl))
theorem nw_s16:NW 2 s16.1:=nw_demote op16 (nw_p16.2 (by kernel_rfl))
theorem nw_x16:NW 2 x16.1:=nw_discard os16 (nw_s16.2 (by kernel_rfl))
theorem nw_w16:NW 2 w16:=dw_down nw_x16.1
theorem attachUp_ok {n:Node} {keeps:List Bool} (h:n.up=true) {K:(Node×Int)->Prop} (k:K (n,7)):q97.F n keeps K:=by
 unfold q97.F q97.FV
 exact cond_t h k
theorem y0:y16.2=0∧y16.1.up=true∧y16.1.store.sup.dis=true:=⟨by kernel_rfl,by kernel_rfl,by kernel_rfl⟩
theorem z0:z16.2=0∧z16.1.up=true∧z16.1.store.sup.dis=true:=⟨by kernel_rfl,by kernel_rfl,by kernel_rfl⟩
theorem alive16_ok {K:Bool->Prop} (k:K true):q105.F K:=by
 unfold q105.F q105.FV
 refine New_ok (b:=2) (g:=7) (by decide) ?_
 refine ReadP_ok (N:=64) (n:=n16) (by decide) on16 (PromoteP_ok (N:=64) (n:=n16) (by decide) (by decide) on16 ?_)
 refine ReadP_ok (N:=68) (n:=p16.1) (by decide) op16 (DiscardP_ok (N:=68) (n:=p16.1) (by decide) (by decide) op16 (DemoteP_ok (N:=68) (n:=p16.1) (by decide) (by decide) op16 ?_))
 refine DiscardP_ok (N:=72) (n:=s16.1) (by decide) (by decide) os16 (PromoteP_ok (N:=76) (n:=x16.1) (by decide) (by decide) ox16 (nodeDown_ok ?_))
 have key:∀ P:Node×Int->Prop,(∀ r,r.2=0->r.1.up=true->r.1.store.sup.dis=true->P r)->q97.F w16 [] P:=
  fun P h=>AttachP_ok (N:=76) (n:=w16) (by decide) ow16 nw_w16.1 (h y16 y0.1 y0.2.1 y0.2.2) (h z16 z0.1 z0.2.1 z0.2.2)
 refine key _ (fun r h1 h2 h3=>attachUp_ok h2 ?_)
 refine cond_f (show(IntKind.i64.wrap ((IntKind.i64.wrap ((IntKind.i64.wrap ((IntKind.i64.wrap ((IntKind.i64.wrap ((IntKind.i64.wrap ((a16.2.length:Int)+(p16.2.length:Int)))+(d16.2.length:Int)))+(e16.2.length:Int)))+(s16.2.length:Int)))+(x16.2.length:Int)))+(h16.2.length:Int)) != 7)=false by kernel_rfl) ?_
 refine cond_f (show((a16.2.length:Int) != 1)=false by kernel_rfl) (cond_f (show((p16.2.length:Int) != 1)=false by kernel_rfl) (cond_f (show((d16.2.length:Int) != 1)=false by kernel_rfl) ?_))
 refine cond_f (show((e16.2.length:Int) != 1)=false by kernel_rfl) (cond_f (show((s16.2.length:Int) != 1)=false by kernel_rfl) (cond_f (show((x16.2.length:Int) != 1)=false by kernel_rfl) ?_))
 refine oget_ok (v:=h0 a16.2) (show getI a16.2 0=some (h0 a16.2) by kernel_rfl) ?_
 refine cond_t (show(((h0 a16.2).kind==2)&&(((h0 a16.2).node==1)&&(((h0 a16.2).id==4)&&(((h0 a16.2).err==8)&&(((h0 a16.2).data==([]:Str))&&true)))))=true by kernel_rfl) ?_
 refine oget_ok (v:=h0 p16.2) (show getI p16.2 0=some (h0 p16.2) by kernel_rfl) (cond_t (show((h0 p16.2).err==0)=true by kernel_rfl) ?_)
 refine oget_ok (v:=h0 p16.2) (show getI p16.2 0=some (h0 p16.2) by kernel_rfl) (cond_t (show((h0 p16.2).id==5)=true by kernel_rfl) ?_)
 refine cond_t (show p16.1.primary=true by kernel_rfl) (cond_t (show p16.1.store.sup.pri=true by kernel_rfl) ?_)
 refine oget_ok (v:=h0 d16.2) (show getI d16.2 0=some (h0 d16.2) by kernel_rfl) (cond_t (show((h0 d16.2).err==0)=true by kernel_rfl) ?_)
 refine oget_ok (v:=h0 d16.2) (show getI d16.2 0=some (h0 d16.2) by kernel_rfl) (cond_t (show(((h0 d16.2).data.length:Int)==8)=true by kernel_rfl) ?_)
 refine oget_ok (v:=h0 e16.2) (show getI e16.2 0=some (h0 e16.2) by kernel_rfl) (cond_t (show((h0 e16.2).err==8)=true by kernel_rfl) ?_)
 refine oget_ok (v:=h0 s16.2) (show getI s16.2 0=some (h0 s16.2) by kernel_rfl) (cond_t (show((h0 s16.2).err==0)=true by kernel_rfl) ?_)
 refine oget_ok (v:=h0 x16.2) (show getI x16.2 0=some (h0 x16.2) by kernel_rfl) (cond_t (show((h0 x16.2).err==0)=true by kernel_rfl) ?_)
 refine oget_ok (v:=h0 h16.2) (show getI h16.2 0=some (h0 h16.2) by kernel_rfl) (cond_t (show((h0 h16.2).err==10)=true by kernel_rfl) ?_)
 refine cond_t (eq0 h1) (cond_t rfl (cond_t h2 (cond_t h3 ?_)))
 refine nodeSameP_ok (N:=64) (n:=n16) (by decide) on16 (cond_t rfl ?_)
 exact nodeOther_ok (show(n16.primary==p16.1.primary)=false by kernel_rfl) k
theorem Side16_ok {c:Case} {K:Int->Prop} (k:K (bI c.side)):q189.F c K:=by
 unfold q189.F
 cases h:c.side <;> rw [h] at k
 ·exact k
 ·exact k
theorem Node16_ok {c:Case} (h0:0≤c.blocks) (hl:c.l.length≤100) (he:∀ e∈c.l,OkE e) {K:Node->Prop} (k:K (nodeC (reachC c.blocks c.l) c.side)):q190.F c K:=by
 unfold q190.F q190.FV
 refine Reach_ok h0 hl he (Side16_ok ?_)
 cases h:c.side <;> rw [h] at k
 ·exact cond_t rfl k
 ·exact cond_f rfl (cond_t rfl k)
end Gm

set_option maxRecDepth 100000
namespace Gm
open Go
section
variable {Bad Fine:Prop} {i:Int} {n:Node} {r:NO}
end
end Gm

set_option maxRecDepth 100000
namespace Gm
open Go
def Kp (n m:Node):Prop:=m.id=n.id∧m.draws=n.draws∧m.mints=n.mints
theorem kp_commit {n:Node} {b:Super}:Kp n (commitN n b).1:=by
 unfold commitN keepN
 split
 ·exact⟨rfl,rfl,rfl⟩
 ·exact⟨rfl,rfl,rfl⟩
theorem kp_promote {n:Node} {id:Int}:Kp n (promoteN n id).1:=by
 have h:Kp n (commitN n (priS n.store.sup true)).1:=kp_commit
 unfold promoteN refuseN
 repeat' split
 all_goals first
  | exact h
  | exact⟨rfl,rfl,rfl⟩
theorem kp_demote {n:Node} {id:Int}:Kp n (demoteN n id).1:=by
 have h:Kp n (commitN n (priS n.store.sup false)).1:=kp_commit
 unfold demoteN refuseN
 repeat' split
 all_goals first
  | exact h
  | exact⟨rfl,rfl,rfl⟩
theorem kp_discard {n:Node} {id:Int}:Kp n (discardN n id).1:=by
 have h:Kp n (commitN n { n.store.sup with dis:=true }).1:=kp_commit
 unfold discardN refuseN
 repeat' split
 all_goals first
  | exact h
  | exact⟨rfl,rfl,rfl⟩
theorem kp_attach {n:Node} {keeps:List Bool}:Kp n (attachN n keeps).1:=by
 unfold attachN
 repeat' split
 all_goals exact⟨rfl,rfl,rfl⟩
theorem kp_attachZ {n:Node} {keeps:List Bool}:Kp n (attachZ n keeps).1:=by
 unfold attachZ
 repeat' split
 all_goals exact⟨rfl,rfl,rfl⟩
section
variable {f0:q105.T} {f1:q106.T} {f2:q190.T} {f3:q79.T} {f4:q81.T} {f5:q80.T} {f6:q78.T} {f7:q97.T} {i:Int} {n m:Node} {q:Node5}
theorem draws16 (hl:n.draws.length≤1000000) (hd:m.draws=n.draws) {kx:q191.L2->Prop} {kr:q191.R->Prop} (g:∀ k:Int,kx ⟨i,k,n,q,m⟩) :
  ∃ N,loopB (q191.b2V f0 f1 f2 f3 f4 f5 f6 f7) N kx kr ⟨i,0,n,q,m⟩:=by
 refine loop_ok (I:=fun x:q191.L2=>∃ k:Nat,k≤n.draws.length∧x=⟨i,k,n,q,m⟩) (m:=fun x:q191.L2=>n.draws.length - x.k.toNat) ?_ ⟨0,by omega,rfl⟩
 rintro _ ⟨k,hk,rfl⟩ rec hrec
 unfold q191.b2V
 dsimp only
 refine cond_ok (fun h=>?_) (fun _=>g _)
 have hlt:=lt_of_dec h
 rw [hd]
 refine oget_ok (getI_ok hlt) (oget_ok (getI_ok hlt) (cond_f (by simp) ?_))
 rw [wrap_lt hlt (by unfold big;omega)]
 exact hrec _ ⟨k+1,hlt,rfl⟩ (by dsimp only;omega)
theorem mints16 (hl:n.mints.length≤1000000) (hd:m.mints=n.mints) {kx:q191.L4->Prop} {kr:q191.R->Prop} (g:∀ k:Int,kx ⟨i,k,n,q,m⟩) :
  ∃ N,loopB (q191.b4V f0 f1 f2 f3 f4 f5 f6 f7) N kx kr ⟨i,0,n,q,m⟩:=by
 refine loop_ok (I:=fun x:q191.L4=>∃ k:Nat,k≤n.mints.length∧x=⟨i,k,n,q,m⟩) (m:=fun x:q191.L4=>n.mints.length - x.k.toNat) ?_ ⟨0,by omega,rfl⟩
 rintro _ ⟨k,hk,rfl⟩ rec hrec
 unfold q191.b4V
 dsimp only
 refine cond_ok (fun h=>?_) (fun _=>g _)
 have hlt:=lt_of_dec h
 rw [hd]
 refine oget_ok (getI_ok hlt) (oget_ok (getI_ok hlt) (cond_f (by simp) ?_))
 rw [wrap_lt hlt (by unfold big;omega)]
 exact hrec _ ⟨k+1,hlt,rfl⟩ (by dsimp only;omega)
end
theorem keeps_tail {n:Node} (h1:n.draws.length≤1000000) (h2:n.mints.length≤1000000) {m0 m1 m2 m3 m4:Node} (k0:Kp n m0) (k1:Kp n m1) (k2:Kp n m2) (k3:Kp n m3) (k4:Kp n m4) {K:Bool->Prop} (k:K true)
  {f0:q105.T} {f1:q106.T} {f2:q190.T} {f3:q79.T} {f4:q81.T} {f5:q80.T} {f6:q78.T} {f7:q97.T} :
  ∃ N,loopB (q191.b0V f0 f1 f2 f3 f4 f5 f6 f7) N (fun _=>K true) (fun r=>K r.t4) ⟨0,n,⟨m0,m1,m2,m3,m4⟩⟩:=by
 refine loop_ok (I:=fun x:q191.L0=>∃ i:Nat,i≤5∧x=⟨i,n,⟨m0,m1,m2,m3,m4⟩⟩) (m:=fun x:q191.L0=>5 - x.i.toNat) ?_ ⟨0,by decide,rfl⟩
 rintro _ ⟨i,hi,rfl⟩ rec hrec
 unfold q191.b0V
 dsimp only
 refine cond_ok (fun h=>?_) (fun _=>k)
 have hlt:(i:Int) < 5:=of_decide_eq_true h
 have g:rec ⟨IntKind.i64.wrap ((i:Int)+1),n,⟨m0,m1,m2,m3,m4⟩⟩:=by
  rw [wrap_i64 (by omega)]
  exact hrec _ ⟨i+1,by omega,rfl⟩ (by dsimp only;omega)
 refine cond_ok (fun _=>?_) (fun e0=>cond_ok (fun _=>?_) (fun e1=>cond_ok (fun _=>?_) (fun e2=>cond_ok (fun _=>?_) (fun e3=>cond_ok (fun _=>?_) (fun e4=>?_)))))
 ·exact cond_f (by simp [k0.1]) (cond_f (by simp [k0.2.1]) (cond_f (by simp [k0.2.2]) (draws16 h1 k0.2.1 (fun _=>mints16 h2 k0.2.2 (fun _=>g)))))
 ·exact cond_f (by simp [k1.1]) (cond_f (by simp [k1.2.1]) (cond_f (by simp [k1.2.2]) (draws16 h1 k1.2.1 (fun _=>mints16 h2 k1.2.2 (fun _=>g)))))
 ·exact cond_f (by simp [k2.1]) (cond_f (by simp [k2.2.1]) (cond_f (by simp [k2.2.2]) (draws16 h1 k2.2.1 (fun _=>mints16 h2 k2.2.2 (fun _=>g)))))
 ·exact cond_f (by simp [k3.1]) (cond_f (by simp [k3.2.1]) (cond_f (by simp [k3.2.2]) (draws16 h1 k3.2.1 (fun _=>mints16 h2 k3.2.2 (fun _=>g)))))
 ·exact cond_f (by simp [k4.1]) (cond_f (by simp [k4.2.1]) (cond_f (by simp [k4.2.2]) (draws16 h1 k4.2.1 (fun _=>mints16 h2 k4.2.2 (fun _=>g)))))
 ·have e0:=eq_f e0
  have e1:=eq_f e1
  have e2:=eq_f e2
  have e3:=eq_f e3
  have e4:=eq_f e4
  omega
theorem NodeKeeps_ok {c:Case} {id:Int} (h0:0≤c.blocks) (hw:∀ e∈c.l,inK .u64 e.num) {K:Bool->Prop} (k:K true):q191.F c id K:=by
 unfold q191.F q191.FV
 refine alive16_ok (cond_f rfl (Great_ok (most:=60) (by decide) k (fun hl he=>cond_f rfl ?_)))
 have hE:∀ e∈c.l,OkE e:=fun e h=>okE_of (hw e h) (he e h)
 have on:OkN 2000 (nodeC (reachC c.blocks c.l) c.side):=((okC_reach hE).up (by omega)).node _
 have hn:NW (1+c.blocks % 4) (nodeC (reachC c.blocks c.l) c.side):=(cw_reach hE).node _
 refine Node16_ok h0 (by omega) hE ?_
 generalize nodeC (reachC c.blocks c.l) c.side=n at on hn
 refine PromoteP_ok (N:=2000) (by decide) (by decide) on (DemoteP_ok (N:=2000) (by decide) (by decide) on (DiscardP_ok (N:=2000) (by decide) (by decide) on (nodeDown_ok ?_)))
 have od:=okN_down on
 have h1:=on.dl
 have h2:=on.ml
 have key:∀ m:Node,Kp n m->∃ N,loopB (q191.b0V q105.F q106.F q190.F q79.F q81.F q80.F q78.F q97.F) N (fun _=>K true) (fun r=>K r.t4) ⟨0,n,⟨(promoteN n id).1,(demoteN n id).1,(discardN n id).1,downN n,m⟩⟩:=
  fun m hm=>keeps_tail (by omega) (by omega) kp_promote kp_demote kp_discard (show Kp n (downN n) from ⟨rfl,rfl,rfl⟩) hm k
 exact AttachP_ok (N:=2000) (n:=downN n) (by decide) od (dw_down hn.1).1 (key _ (kp_attach (n:=downN n))) (key _ (kp_attachZ (n:=downN n)))
end Gm
