/- Masks: what the functions answer. -/
import Derived.Test.YtfjhdboapcckpaaGreatDoorGdC
set_option maxRecDepth 100000
namespace Gm
open Go
theorem use_eq {α:Type} {K:α->Prop} {a b:α} (h:K a) (e:a=b):K b:=e ▸ h
theorem round1 {α β:Type} {B:(α->Prop)->(α->Prop)->(β->Prop)->α->Prop} {n:Nat} {kx:α->Prop} {kr:β->Prop} {x:α}
  (h:B (loopB B n kx kr) kx kr x):loopB B (n+1) kx kr x:=h
theorem or_new {m i:Nat} (h:m.testBit i=false):m ||| 2 ^ i=m+2 ^ i:=by
 have hp:0 < 2 ^ i:=Nat.two_pow_pos i
 have hb:m / 2 ^ i % 2=0:=by
  rw [Nat.testBit_eq_decide_div_mod_eq] at h
  have:=of_decide_eq_false h
  omega
 have hr:m % 2 ^ (i+1) < 2 ^ i:=by
  rw [Nat.pow_succ,Nat.mod_mul,hb]
  have:=Nat.mod_lt m hp
  omega
 have e:=Nat.div_add_mod m (2 ^ (i+1))
 generalize hq:m / 2 ^ (i+1)=q at e
 generalize hm:m % 2 ^ (i+1)=r at e hr
 have e1:2 ^ (i+1) * q+r=2 ^ (i+1) * q ||| r:=Nat.two_pow_add_eq_or_of_lt (by rw [Nat.pow_succ];omega) q
 have e2:2 ^ i * 1+r=2 ^ i * 1 ||| r:=Nat.two_pow_add_eq_or_of_lt hr 1
 have e3:2 ^ (i+1) * q+(2 ^ i+r)=2 ^ (i+1) * q ||| (2 ^ i+r):=Nat.two_pow_add_eq_or_of_lt (by rw [Nat.pow_succ];omega) q
 rw [Nat.mul_one] at e2
 rw [← e,e1,Nat.or_assoc,Nat.or_comm r,← e2,← e3,← e1]
 omega
theorem or_old {m i:Nat} (h:m.testBit i=true):m ||| 2 ^ i=m:=by
 apply Nat.eq_of_testBit_eq
 intro j
 rw [Nat.testBit_or,Nat.testBit_two_pow]
 by_cases e:i=j
 ·subst e;rw [h];simp
 ·simp [e]
theorem sub_bit {m i:Nat} (h:m.testBit i=true):2 ^ i≤m∧(m - 2 ^ i).testBit i=false∧m=(m - 2 ^ i) ||| 2 ^ i:=by
 have h1:=Nat.ge_two_pow_of_testBit h
 have h2:(m - 2 ^ i).testBit i=false:=by
  rw [Nat.testBit_eq_decide_div_mod_eq] at h ⊢
  have h:=of_decide_eq_true h
  have hp:0 < 2 ^ i:=Nat.two_pow_pos i
  have:(m - 2 ^ i) / 2 ^ i=m / 2 ^ i - 1:=by
   have:=Nat.sub_mul_div m (2 ^ i) 1
   rw [Nat.mul_one] at this
   exact this
  rw [this]
  exact decide_eq_false (by omega)
 exact⟨h1,h2,by rw [or_new h2];omega⟩
theorem has_ok {m i:Int} (hm:inK .u32 m) {K:Bool->Prop} (h:K (hasM m i)):q37.F m i K:=by
 obtain ⟨h1,h2⟩:=u32_toNat hm
 by_cases hi:0≤i∧i < 32
 ·have e:((i.toNat:Nat):Int)=i:=by omega
  have e2:hasM m i=m.toNat.testBit i.toNat:=by unfold hasM;simp [hi]
  rw [e2] at h
  have:=ref03_Has_ok (m:=m.toNat) (i:=i.toNat) (by simpa using h1) (by omega) h
  rw [h2,e] at this
  exact this
 ·have e2:hasM m i=false:=by unfold hasM;simp [hi]
  rw [e2] at h
  unfold q37.F q37.FV
  refine cond_ok (fun h3=>cond_ok (fun h4=>?_) (fun _=>h)) (fun _=>h)
  have h3:i≥0:=of_decide_eq_true h3
  have h4:i < 32:=of_decide_eq_true h4
  exact absurd ⟨h3,h4⟩ hi
def setL (m:Int) (l:List Int):Int:=l.foldl setM m
theorem setL_u32:∀ (l:List Int) (m:Int),inK .u32 m->inK .u32 (setL m l)
 | [],_,h=>h
 | i :: l,m,h=>setL_u32 l (setM m i) (set_u32 h)
theorem set_new {m i:Int} (hm:inK .u32 m) (hi:0≤i∧i < 32) (h:hasM m i=false):IntKind.u32.wrap (m+((2 ^ i.toNat:Nat):Int))=setM m i:=by
 obtain ⟨h1,h2⟩:=u32_toNat hm
 have hb:m.toNat.testBit i.toNat=false:=by unfold hasM at h;simpa [hi] using h
 have e:setM m i=((m.toNat+2 ^ i.toNat:Nat):Int):=by unfold setM;rw [if_pos hi,or_new hb]
 have hs:=set_u32 (i:=i) hm
 rw [e] at hs ⊢
 have hs:(0:Int)≤((m.toNat+2 ^ i.toNat:Nat):Int)∧((m.toNat+2 ^ i.toNat:Nat):Int)≤4294967295:=hs
 rw [show m+((2 ^ i.toNat:Nat):Int)=((m.toNat+2 ^ i.toNat:Nat):Int) by omega,wrap_u32]
 omega
theorem set_old {m i:Int} (hm:inK .u32 m) (hi:0≤i∧i < 32) (h:hasM m i=true):m=setM m i:=by
 obtain ⟨h1,h2⟩:=u32_toNat hm
 have hb:m.toNat.testBit i.toNat=true:=by unfold hasM at h;simpa [hi] using h
 unfold setM
 rw [if_pos hi,or_old hb]
 exact h2.symm
theorem ref03_Set_ok {m:Int} {l:List Int} (hl:l.length≤1000) (hm:inK .u32 m) {K:Int->Prop} (h:K (setL m l)):q134.F m l K:=by
 unfold q134.F q134.FV
 refine loop_ok (I:=fun x:q134.L0=>∃ k:Nat,k≤l.length∧x=⟨setL m (l.take k),l,k⟩) (m:=fun x:q134.L0=>l.length - x.k.toNat) ?_ ⟨0,by omega,rfl⟩
 rintro _ ⟨k,hk,rfl⟩ rec hrec
 unfold q134.b0V
 dsimp only
 refine cond_ok (fun h1=>?_) (fun h1=>?_)
 ·have hlt:=lt_of_dec h1
  have hu:=setL_u32 (l.take k) m hm
  have hstep:setL m (l.take (k+1))=setM (setL m (l.take k)) l[k]:=by
   unfold setL
   rw [take_succ hlt,List.foldl_append]
   rfl
  have next:∀ v,v=setL m (l.take (k+1))->rec ⟨v,l,IntKind.i64.wrap ((k:Int)+1)⟩:=by
   intro v hv
   rw [wrap_lt hlt (by unfold big;omega)]
   exact hrec _ ⟨k+1,hlt,by rw [hv]⟩ (by show l.length - ((k+1:Nat):Int).toNat < l.length - ((k:Nat):Int).toNat;omega)
  refine oget_ok (getI_ok hlt) (cond_ok (fun h2=>?_) (fun h2=>?_))
  ·have h2:l[k]≥0:=of_decide_eq_true h2
   refine oget_ok (getI_ok hlt) (cond_ok (fun h3=>?_) (fun h3=>?_))
   ·have h3:l[k] < 32:=of_decide_eq_true h3
    refine oget_ok (getI_ok hlt) (has_ok hu (cond_ok (fun h4=>?_) (fun h4=>?_)))
    ·refine oget_ok (getI_ok hlt) ?_
     have e:((l[k].toNat:Nat):Int)=l[k]:=by omega
     have key:∀ v:Int,v=l[k]->q36.F v fun r6=>rec ⟨IntKind.u32.wrap (setL m (l.take k)+r6),l,IntKind.i64.wrap ((k:Int)+1)⟩:=by
      intro v hv
      rw [hv,← e]
      refine ref03_pow_ok (by omega) (next _ ?_)
      rw [hstep]
      have:=set_new hu ⟨h2,h3⟩ (not_t h4)
      simpa using this
     exact key _ rfl
    ·exact next _ (by rw [hstep];exact set_old hu ⟨h2,h3⟩ (not_f h4))
   ·refine next _ ?_
    rw [hstep]
    have h3:¬ l[k] < 32:=of_decide_eq_false h3
    unfold setM
    rw [if_neg (by omega)]
  ·refine next _ ?_
   rw [hstep]
   have h2:¬ l[k]≥0:=of_decide_eq_false h2
   unfold setM
   rw [if_neg (by omega)]
 ·have e:=le_of_dec h1 hk
  subst e
  rw [List.take_length]
  exact h
theorem ref03_Clear_ok {m i:Int} (hm:inK .u32 m) {K:Int->Prop} (h:K (clrM m i)):q173.F m [i] K:=by
 unfold q173.F q173.FV
 have step:∀ (n:Nat) (v:Int),v=clrM m i->loopB (q173.b0V q37.F q36.F) (n+1) (fun x5:q173.L0=>K x5.m) (fun _=>False) ⟨v,[i],IntKind.i64.wrap ((0:Int)+1)⟩:=by
  intro n v hv
  refine round1 ?_
  unfold q173.b0V
  refine cond_f (by rfl) ?_
  rw [hv];exact h
 refine⟨2,round1 ?_⟩
 unfold q173.b0V
 refine cond_t (by rfl) (oget_ok (v:=i) rfl (has_ok hm (cond_ok (fun h1=>?_) (fun h1=>?_))))
 ·refine oget_ok (v:=i) rfl ?_
  have h1':=h1
  unfold hasM at h1'
  rw [Bool.and_eq_true] at h1'
  have hi:=of_decide_eq_true h1'.1
  have e:((i.toNat:Nat):Int)=i:=by omega
  have key:∀ v:Int,v=i->q36.F v fun r4=>loopB (q173.b0V q37.F q36.F) 1 (fun x5:q173.L0=>K x5.m) (fun _=>False) ⟨IntKind.u32.wrap (m - r4),[i],IntKind.i64.wrap ((0:Int)+1)⟩:=by
   intro v hv
   rw [hv,← e]
   refine ref03_pow_ok (by omega) (step 0 _ ?_)
   have hc:=clr_u32 (i:=i) hm
   have e2:clrM m i=m - ((2 ^ i.toNat:Nat):Int):=by unfold clrM;rw [if_pos h1]
   rw [e2] at hc ⊢
   have hc:(0:Int)≤m - ((2 ^ i.toNat:Nat):Int)∧m - ((2 ^ i.toNat:Nat):Int)≤4294967295:=hc
   rw [wrap_u32]
   omega
  exact key _ rfl
 ·refine step 0 _ ?_
  unfold clrM
  rw [if_neg (by rw [h1];simp)]
def bitsI (m:Int) (k:Nat):List Int:=((List.range k).filter fun (i:Nat)=>m.toNat.testBit i).map fun (i:Nat)=>(i:Int)
theorem bitsI_len (m:Int) (k:Nat):(bitsI m k).length≤k:=by
 unfold bitsI
 rw [List.length_map]
 have:=List.length_filter_le (fun i=>m.toNat.testBit i) (List.range k)
 simpa using this
theorem has_nat {m:Int} {k:Nat} (hk:k < 32):hasM m (k:Int)=m.toNat.testBit k:=by unfold hasM;simp;omega
theorem ref03_List_ok {m:Int} (hm:inK .u32 m) {K:List Int->Prop} (h:K (bitsI m 32)):q161.F m K:=by
 unfold q161.F q161.FV
 refine loop_ok (I:=fun x:q161.L0=>∃ k:Nat,k≤32∧x=⟨m,bitsI m k,k⟩) (m:=fun x:q161.L0=>32 - x.i.toNat) ?_ ⟨0,by omega,rfl⟩
 rintro _ ⟨k,hk,rfl⟩ rec hrec
 unfold q161.b0V
 dsimp only
 refine cond_ok (fun h1=>?_) (fun h1=>?_)
 ·have hlt:(k:Int) < 32:=of_decide_eq_true h1
  have hw:IntKind.i64.wrap ((k:Int)+1)=((k+1:Nat):Int):=wrap_lt (m:=32) (by omega) (by unfold big;omega)
  have hs:bitsI m (k+1)=if m.toNat.testBit k=true then bitsI m k++[(k:Int)] else bitsI m k:=by
   unfold bitsI
   rw [List.range_succ,List.filter_append,List.map_append]
   by_cases hb:m.toNat.testBit k=true
   ·rw [if_pos hb];simp [hb]
   ·rw [if_neg hb];simp [hb]
  have hl:=bitsI_len m k
  refine has_ok hm ?_
  rw [has_nat (by omega)]
  refine cond_ok (fun h2=>?_) (fun h2=>?_)
  ·refine gd_ok (fit_ok (by simp;omega)) ?_
   rw [hw]
   refine hrec _ ⟨k+1,by omega,?_⟩ (by show 32 - ((k+1:Nat):Int).toNat < 32 - ((k:Nat):Int).toNat;omega)
   rw [hs,if_pos h2]
  ·rw [hw]
   refine hrec _ ⟨k+1,by omega,?_⟩ (by show 32 - ((k+1:Nat):Int).toNat < 32 - ((k:Nat):Int).toNat;omega)
   rw [hs,if_neg (by rw [h2];simp)]
 ·have hlt:¬ (k:Int) < 32:=of_decide_eq_false h1
  have:k=32:=by omega
  subst this
  exact h
theorem setL_bit (l:List Nat):∀ (m:Int),inK .u32 m->(∀ i∈l,i < 32)->∀ j,(setL m (l.map fun (i:Nat)=>(i:Int))).toNat.testBit j=(m.toNat.testBit j||decide (j∈l)):=by
 induction l with
 | nil=>intro m _ _ j;simp [setL]
 | cons i l ih=>
  intro m hm hl j
  have hi:=hl i (by simp)
  have e:setM m (i:Int)=((m.toNat ||| 2 ^ i:Nat):Int):=by unfold setM;rw [if_pos (by omega)];simp
  show(setL (setM m (i:Int)) (l.map fun (i:Nat)=>(i:Int))).toNat.testBit j=_
  rw [ih _ (set_u32 hm) (fun x hx=>hl x (by simp [hx])),e]
  simp only [Int.toNat_natCast,Nat.testBit_or,Nat.testBit_two_pow,List.mem_cons]
  by_cases h1:i=j
  ·subst h1;simp
  ·have:¬ j=i:=fun x=>h1 x.symm
   simp [h1,this]
theorem bits_of {m:Int} (hm:inK .u32 m) (j:Nat):decide (j∈(List.range 32).filter fun i=>m.toNat.testBit i)=m.toNat.testBit j:=by
 have hj:m.toNat.testBit j=true->j < 32:=by
  intro h
  refine Nat.lt_of_not_le fun hge=>?_
  have h1:=Nat.ge_two_pow_of_testBit h
  have h2:=(u32_toNat hm).1
  have:2 ^ 32≤2 ^ j:=Nat.pow_le_pow_right (by decide) hge
  omega
 rw [Bool.eq_iff_iff,decide_eq_true_eq,List.mem_filter,List.mem_range]
 exact⟨fun h=>h.2,fun h=>⟨hj h,h⟩⟩
theorem setL_or {a b:Int} (ha:inK .u32 a) (hb:inK .u32 b):setL a (bitsI b 32)=orM a b:=by
 have hu:=setL_u32 (bitsI b 32) a ha
 have e:(setL a (bitsI b 32)).toNat=a.toNat ||| b.toNat:=by
  apply Nat.eq_of_testBit_eq
  intro j
  unfold bitsI
  rw [setL_bit _ a ha (fun i hi=>List.mem_range.1 (List.mem_filter.1 hi).1),bits_of hb,Nat.testBit_or]
 unfold orM
 rw [← e]
 exact(u32_toNat hu).2.symm
theorem u32_zero:inK .u32 0:=inK_u32 (n:=0) (by decide)
theorem or_zero {b:Int} (hb:inK .u32 b):orM 0 b=b:=by
 unfold orM
 rw [show (0:Int).toNat=0 from rfl,Nat.zero_or]
 exact(u32_toNat hb).2
theorem ref03_Union_ok {a b:Int} (ha:inK .u32 a) (hb:inK .u32 b) {K:Int->Prop} (h:K (orM a b)):q162.F [a,b] K:=by
 unfold q162.F q162.FV
 refine⟨3,round1 ?_⟩
 unfold q162.b0V
 have l1:=bitsI_len a 32
 have l2:=bitsI_len b 32
 refine cond_t (by rfl) (oget_ok (v:=a) rfl (ref03_List_ok ha (ref03_Set_ok (by omega) u32_zero (round1 ?_))))
 rw [setL_or u32_zero ha,or_zero ha]
 refine cond_t (by rfl) (oget_ok (v:=b) rfl (ref03_List_ok hb (ref03_Set_ok (by omega) ha (round1 ?_))))
 rw [setL_or ha hb]
 exact cond_f (by rfl) h
theorem ref03_All_ok {b:Int} {K:Int->Prop} (h:K (allM b)):q163.F b K:=by
 unfold q163.F q163.FV
 unfold allM at h
 refine cond_ok (fun h1=>?_) (fun h1=>cond_ok (fun h2=>?_) (fun h2=>?_))
 ·have h1:b < 1:=of_decide_eq_true h1
  rw [if_neg (by omega)] at h;exact h
 ·have h2:b > 32:=of_decide_eq_true h2
  rw [if_neg (by omega)] at h;exact h
 have h1:¬ b < 1:=of_decide_eq_false h1
 have h2:¬ b > 32:=of_decide_eq_false h2
 rw [if_pos (by omega)] at h
 obtain ⟨b,rfl⟩:∃ n:Nat,b=n:=⟨b.toNat,by omega⟩
 rw [Int.toNat_natCast] at h
 refine loop_ok (I:=fun x:q163.L0=>∃ k:Nat,k≤b∧x=⟨b,((2 ^ k - 1:Nat):Int),k⟩) (m:=fun x:q163.L0=>b - x.i.toNat) ?_ ⟨0,by omega,rfl⟩
 rintro _ ⟨k,hk,rfl⟩ rec hrec
 unfold q163.b0V
 dsimp only
 refine cond_ok (fun h3=>?_) (fun h3=>?_)
 ·have hlt:=lt_of_dec h3
  refine ref03_pow_ok (by omega) ?_
  rw [wrap_lt hlt (by unfold big;omega)]
  refine hrec _ ⟨k+1,hlt,?_⟩ (by show b - ((k+1:Nat):Int).toNat < b - ((k:Nat):Int).toNat;omega)
  have hp:2 ^ k≤2 ^ 31:=Nat.pow_le_pow_right (by decide) (by omega)
  have hp:2 ^ k≤2147483648:=by simpa using hp
  have h0:0 < 2 ^ k:=Nat.two_pow_pos k
  congr 1
  rw [Nat.pow_succ]
  generalize 2 ^ k=p at hp h0 ⊢
  rw [wrap_u32]
  omega
 ·have e:=le_of_dec h3 hk
  subst e
  exact h
theorem range_split:∀ i:Fin 32,List.range 32=List.range i++i.1 :: List.range' (i.1+1) (31 - i.1):=by decide
theorem next_at {m:Int} {i:Nat} (hi:i < 32) (hb:m.toNat.testBit i=true) (hn:∀ j,j < i->m.toNat.testBit j=false):nextM m=((i:Int),true):=by
 unfold nextM bitsM
 rw [range_split ⟨i,hi⟩,List.filter_append]
 have:(List.range i).filter (fun i=>m.toNat.testBit i)=[]:=by
  rw [List.filter_eq_nil_iff]
  intro j hj
  rw [hn j (List.mem_range.1 hj)]
  simp
 show(match (List.range i).filter (fun i=>m.toNat.testBit i)++(i :: List.range' (i+1) (31 - i)).filter (fun i=>m.toNat.testBit i) with | i :: _=>((i:Int),true) | []=>(0,false))=_
 rw [this,List.nil_append,List.filter_cons_of_pos (by exact hb)]
theorem next_none {m:Int} (hn:∀ j,j < 32->m.toNat.testBit j=false):nextM m=(0,false):=by
 unfold nextM bitsM
 have:(List.range 32).filter (fun i=>m.toNat.testBit i)=[]:=by
  rw [List.filter_eq_nil_iff]
  intro j hj
  rw [hn j (List.mem_range.1 hj)]
  simp
 rw [this]
theorem ref03_Next_ok {m:Int} (hm:inK .u32 m) {K:(Int×Bool)->Prop} (h:K (nextM m)):q169.F m 0 K:=by
 unfold q169.F q169.FV
 refine loop_ok (I:=fun x:q169.L0=>∃ k:Nat,k≤32∧(∀ j,j < k->m.toNat.testBit j=false)∧x=⟨m,0,k⟩) (m:=fun x:q169.L0=>32 - x.i.toNat) ?_ ⟨0,by omega,fun j hj=>by omega,rfl⟩
 rintro _ ⟨k,hk,hn,rfl⟩ rec hrec
 unfold q169.b0V
 dsimp only
 refine cond_ok (fun h1=>?_) (fun h1=>?_)
 ·have hlt:(k:Int) < 32:=of_decide_eq_true h1
  refine cond_t (decide_eq_true (by omega)) (has_ok hm ?_)
  rw [has_nat (by omega)]
  refine cond_ok (fun h2=>?_) (fun h2=>?_)
  ·rw [next_at (by omega) h2 hn] at h
   exact h
  ·rw [wrap_lt (m:=32) (by omega) (by unfold big;omega)]
   refine hrec _ ⟨k+1,by omega,?_,rfl⟩ (by show 32 - ((k+1:Nat):Int).toNat < 32 - ((k:Nat):Int).toNat;omega)
   intro j hj
   by_cases e:j=k
   ·subst e;exact h2
   ·exact hn j (by omega)
 ·have hlt:¬ (k:Int) < 32:=of_decide_eq_false h1
  have:k=32:=by omega
  subst this
  rw [next_none hn] at h
  exact h
end Gm

set_option maxRecDepth 100000
namespace Gm
open Go
theorem u64_nat {g:Int} (h:inK .u64 g):((g.toNat:Nat):Int)=g∧g.toNat < 2 ^ 64:=by
 have h:0≤g∧g≤18446744073709551615:=h
 constructor
 ·omega
 ·show g.toNat < 18446744073709551616;omega
theorem ref01_put64 {g:Int} (h:inK .u64 g) {K:Str->Prop} (k:K (be g.toNat 8)):q16.F g K:=by
 have:=ref01_Put64_ok (u64_nat h).2 k
 rwa [(u64_nat h).1] at this
theorem num_put64 {g:Int} (h:inK .u64 g) {K:Str->Prop} (k:K (be g.toNat 8)):q60.F g K:=by
 have:=num_Put64_ok (n:=g.toNat) k
 rwa [(u64_nat h).1] at this
theorem be8 (n:Nat):(be n 8).length=8:=be_length 8 n
theorem ref05_Mint_ok {v:Vec} {g:Int} {K:(Vec×Int)->Prop} (h:K (if g=0 then(zV,14)else(mintVec v g,0))):q132.F v g K:=by
 unfold q132.F
 refine cond_ok (fun h1=>?_) (fun h1=>?_)
 ·rw [if_pos (by simpa using h1)] at h;exact h
 rw [if_neg (by simpa using h1)] at h
 unfold mintVec at h
 refine cond_ok (fun h2=>?_) (fun h2=>?_)
 ·rw [if_pos (by simpa using h2)] at h;exact h
 ·rw [if_neg (by simpa using h2)] at h;exact h
theorem ref05_Retire_ok {v:Vec} {K:Vec->Prop} (h:K (retire v)):q166.F v K:=by
 unfold q166.F
 unfold retire at h
 refine cond_ok (fun h2=>?_) (fun h2=>?_)
 ·rw [if_pos (by simpa using h2)] at h;exact h
 ·rw [if_neg (by simpa using h2)] at h;exact h
theorem ref05_From_ok {v:Vec} {g:Int} {K:Vec->Prop} (h:K (fromVec v g)):q168.F v g K:=h
theorem ref05_Place_ok {v:Vec} {g:Int} {K:Int->Prop} (h:K (place v g)):q157.F v g K:=by
 unfold q157.F
 unfold place at h
 have w0:IntKind.i64.wrap ((0:Int)+1)=1:=rfl
 have w1:IntKind.i64.wrap ((1:Int)+1)=2:=rfl
 have w2:IntKind.i64.wrap ((2:Int)+1)=3:=rfl
 have w3:IntKind.i64.wrap ((3:Int)+1)=4:=rfl
 have last:∀ n,loopB q157.b0 (n+1) (fun _=>K (-1)) (fun r2:q157.R=>K r2.t4) ⟨g,4,v⟩=K (-1):=fun n=>rfl
 refine⟨5,?_⟩
 by_cases hg:g=0
 ·rw [if_pos hg] at h
  subst hg
  exact h
 rw [if_neg hg] at h
 have gn:(g != 0)=true:=by simpa using hg
 refine round1 ?_
 unfold q157.b0
 dsimp only
 refine cond_t rfl (cond_t gn (cond_t rfl (cond_ok (fun h1=>?_) (fun h1=>?_))))
 ·rw [if_pos (by simpa using h1)] at h;exact h
 rw [if_neg (by simpa using h1)] at h
 rw [w0]
 refine round1 ?_
 dsimp only
 refine cond_t rfl (cond_t gn (cond_f rfl (cond_t rfl (cond_ok (fun h1=>?_) (fun h1=>?_)))))
 ·rw [if_pos (by simpa using h1)] at h;exact h
 rw [if_neg (by simpa using h1)] at h
 rw [w1]
 refine round1 ?_
 dsimp only
 refine cond_t rfl (cond_t gn (cond_f rfl (cond_f rfl (cond_t rfl (cond_ok (fun h1=>?_) (fun h1=>?_))))))
 ·rw [if_pos (by simpa using h1)] at h;exact h
 rw [if_neg (by simpa using h1)] at h
 rw [w2]
 refine round1 ?_
 dsimp only
 refine cond_t rfl (cond_t gn (cond_f rfl (cond_f rfl (cond_f rfl (cond_t rfl (cond_ok (fun h1=>?_) (fun h1=>?_)))))))
 ·rw [if_pos (by simpa using h1)] at h;exact h
 rw [if_neg (by simpa using h1)] at h
 rw [w3]
 exact h
theorem supR_iff {s:Super}:supR s=true↔(1≤s.blocks∧s.blocks≤32)∧s.vector.current≠0:=by
 unfold supR
 simp
theorem supRight_ok {s:Super} {K:Bool->Prop} (k:K (supR s)):q13.F s K:=by
 unfold q13.F
 refine cond_ok (fun h1=>cond_ok (fun h2=>?_) (fun h2=>?_)) (fun h1=>?_)
 ·have h1:s.blocks≥1:=of_decide_eq_true h1
  have h2:s.blocks≤32:=of_decide_eq_true h2
  refine use_eq k ?_
  unfold supR
  rw [decide_eq_true (show 1≤s.blocks∧s.blocks≤32 from ⟨h1,h2⟩)]
  rfl
 ·have h2:¬ s.blocks≤32:=of_decide_eq_false h2
  refine use_eq k ?_
  unfold supR
  rw [decide_eq_false (by omega)]
  rfl
 ·have h1:¬ s.blocks≥1:=of_decide_eq_false h1
  refine use_eq k ?_
  unfold supR
  rw [decide_eq_false (by omega)]
  rfl
theorem maskAll_ok {b:Int} (hb:inK .i64 b) {K:Int->Prop} (h:K (allM b)):q53.F b K:=by
 by_cases hr:1≤b∧b≤32
 ·obtain ⟨b,rfl⟩:∃ n:Nat,b=n:=⟨b.toNat,by omega⟩
  unfold allM at h
  rw [if_pos hr] at h
  exact mask_All_ok (by omega) (by omega) (by simpa using h)
 ·unfold allM at h
  rw [if_neg hr] at h
  unfold q53.F q53.FV
  have hb:-9223372036854775808≤b∧b≤9223372036854775807:=hb
  refine mask_there_ok (cond_t ?_ h)
  rw [decide_eq_false]
  ·rfl
  ·by_cases e:b = -9223372036854775808
   ·subst e;decide
   ·rw [wrap_i64 (by omega)];omega
theorem superRight_ok {s:Super} (hb:inK .i64 s.blocks) {K:Bool->Prop} (k:K (supR s)):q67.F s K:=by
 unfold q67.F q67.FV
 refine maskAll_ok hb ?_
 unfold allM
 by_cases hr:1≤s.blocks∧s.blocks≤32
 ·rw [if_pos hr]
  have hp:2 ^ 1≤2 ^ s.blocks.toNat:=Nat.pow_le_pow_right (by decide) (by omega)
  refine cond_t ?_ ?_
  ·simp only [bne_iff_ne,ne_eq]
   omega
  ·unfold q51.F
   refine use_eq k ?_
   unfold supR
   rw [decide_eq_true hr]
   rfl
 ·rw [if_neg hr]
  refine cond_f rfl (use_eq k ?_)
  unfold supR
  rw [decide_eq_false hr]
  rfl
theorem head_bytes {s:Super} (hr:supR s=true):bytesOfInts [IntKind.u8.wrap s.blocks,((fv ([s.inc,s.pri,s.dis].take 8):Nat):Int)]=[UInt8.ofNat s.blocks.toNat,UInt8.ofNat (fv [s.inc,s.pri,s.dis])]:=by
 have h:=(supR_iff.1 hr).1
 have:=u8s (b:=s.blocks.toNat) (by omega) (fv [s.inc,s.pri,s.dis])
 rw [show ((s.blocks.toNat:Nat):Int)=s.blocks by omega] at this
 exact this
theorem sBytes_len (s:Super):(sBytes s).length=37:=by simp [sBytes,be_length]
theorem supBytes_ok {s:Super} (w:wSup s) (hr:supR s=true) {K:Str->Prop} (k:K (sBytes s)):q17.F s K:=by
 obtain ⟨_,w1,w2,w3,w4⟩:=w
 unfold q17.F q17.FV
 refine ref01_Flags_ok ?_
 rw [head_bytes hr]
 refine gd_ok (fits_small (by simp)) (ref01_put64 w1 (gd_ok (fits_small (by simp [be8])) (ref01_put64 w2 (gd_ok (fits_small (by simp [be8])) (ref01_put64 w3 (gd_ok (fits_small (by simp [be8])) (ref01_put64 w4 (gd_ok (fits_small (by simp [be8])) ?_))))))))
 exact k
theorem supEncode_ok {s:Super} (w:wSup s) {K:(Str×Int)->Prop} (k:K (encS6 s)):q21.F s K:=by
 unfold q21.F q21.FV
 unfold encS6 at k
 refine supRight_ok (cond_ok (fun h1=>?_) (fun h1=>?_))
 ·rw [if_neg (by rw [not_t h1];simp)] at k;exact k
 ·have hr:=not_f h1
  rw [if_pos hr] at k
  exact supBytes_ok w hr (ref02_Seal_ok (wStr_of (by rw [sBytes_len];decide)) k)
theorem superEncode_ok {s:Super} (w:wSup s) {K:(Str×Int)->Prop} (k:K (encS6 s)):q68.F s K:=by
 unfold q68.F q68.FV
 unfold encS6 at k
 refine superRight_ok w.1 (cond_ok (fun h1=>?_) (fun h1=>?_))
 ·rw [if_neg (by rw [not_t h1];simp)] at k;exact k
 have hr:=not_f h1
 rw [if_pos hr] at k
 obtain ⟨_,w1,w2,w3,w4⟩:=w
 refine num_Flags_ok (gd_ok (fits_small (by simp [bytesOfInts])) ⟨5,?_⟩)
 rw [head_bytes hr]
 refine round1 ?_
 unfold q68.b0V
 dsimp only
 refine cond_t rfl (cond_t rfl (num_put64 w1 (gd_ok (fits_small (by simp [be8])) (round1 ?_))))
 refine cond_t rfl (cond_f rfl (cond_t rfl (num_put64 w2 (gd_ok (fits_small (by simp [be8])) (round1 ?_)))))
 refine cond_t rfl (cond_f rfl (cond_f rfl (cond_t rfl (num_put64 w3 (gd_ok (fits_small (by simp [be8])) (round1 ?_))))))
 refine cond_t rfl (cond_f rfl (cond_f rfl (cond_f rfl (cond_t rfl (num_put64 w4 (gd_ok (fits_small (by simp [be8])) (round1 ?_)))))))
 exact cond_f rfl (check_Seal_ok (wStr_of (by simp [be8])) k)
theorem supNumber_ok {b:Str} {i:Nat} (h:i+8≤b.length) (h2:i≤1000) {K:Int->Prop} (k:K (numAt b i)):q31.F b i K:=number_ok h h2 rfl k
theorem supDecode_ok {b:Str} (hb:b.length≤1000000) {K:(Super×Int)->Prop} (k:K (decS6 b)):q32.F b K:=by
 unfold q32.F q32.FV
 unfold decS6 at k
 refine ref02_Open_ok (wStr_of hb) (cond_ok (fun h1=>?_) (fun h1=>?_))
 ·rw [if_pos (by simpa using h1)] at k;exact k
 rw [if_neg (by simpa using h1)] at k
 have w:=decS6_w b
 unfold decS6 at w
 rw [if_neg (by simpa using h1)] at w
 generalize (openV b).1=t at k w ⊢
 refine cond_ok (fun h2=>?_) (fun h2=>?_)
 ·have h2:t.length≠37:=bne_nat (b:=37) h2
  rw [if_neg (fun h=>h2 h.1)] at k;exact k
 have hl:t.length=37:=bne_nat' (b:=37) h2
 refine oget_ok (getI_lit 0 (i:=4) (by omega)) (cond_ok (fun h3=>?_) (fun h3=>?_))
 ·have h3:((t.getD 4 0).toNat:Int) > 7:=of_decide_eq_true h3
  rw [if_neg (fun h=>by have:=h.2.1;omega)] at k;exact k
 have h3:¬ ((t.getD 4 0).toNat:Int) > 7:=of_decide_eq_false h3
 have h7:(t.getD 4 0).toNat≤7:=by omega
 have hu:unflag (t.getD 4 0).toNat 3=([bit (t.getD 4 0) 0,bit (t.getD 4 0) 1,bit (t.getD 4 0) 2],true):=by
  unfold unflag
  rw [if_pos ⟨by decide,by decide,by show _ / 2 ^ 3=0;omega⟩]
  rfl
 refine oget_ok (getI_lit 0 (i:=4) (by omega)) (ref01_Unflag_ok (u8_lt _) ?_)
 rw [hu]
 refine oget_ok (getI_lit 0 (i:=3) (by omega)) ?_
 refine supNumber_ok (i:=5) (by omega) (by decide) (supNumber_ok (i:=13) (by omega) (by decide) (supNumber_ok (i:=21) (by omega) (by decide) (supNumber_ok (i:=29) (by omega) (by decide) ?_)))
 refine oget_ok rfl (oget_ok rfl (oget_ok rfl ?_))
 have e0:IntKind.i64.wrap ((t.getD 3 0).toNat:Int)=((t.getD 3 0).toNat:Int):=by
  have:=u8_lt (t.getD 3 0)
  rw [wrap_i64 (by omega)]
 rw [e0]
 refine supRight_ok (cond_ok (fun h4=>?_) (fun h4=>?_))
 ·have h4:supR (sOfBytes t)=false:=not_t h4
  rw [if_neg (fun h=>by rw [h4] at h;exact absurd h.2.2.1 (by simp))] at k;exact k
 have h4:supR (sOfBytes t)=true:=not_f h4
 have wb:wSup (sOfBytes t):=by
  have h3':=u8_lt (t.getD 3 0)
  exact⟨i64_of (x:=((t.getD 3 0).toNat:Int)) (by omega),unbe_w _ _ (by omega),unbe_w _ _ (by omega),unbe_w _ _ (by omega),unbe_w _ _ (by omega)⟩
 refine supBytes_ok wb h4 (cond_ok (fun h5=>?_) (fun h5=>?_))
 ·have h5:¬ sBytes (sOfBytes t)=t:=by
   have:=not_t h5
   simpa using this
  rw [if_neg (fun h=>h5 h.2.2.2)] at k;exact k
 ·have h5:sBytes (sOfBytes t)=t:=by
   have:=not_f h5
   simpa using this
  rw [if_pos ⟨hl,h7,h4,h5⟩] at k;exact k
theorem fits7_ok {d:Disk} {s:Super} (hs:d.sure.length≤1000000) {K:Bool->Prop} (k:K (fitsS d s)):q33.F d s K:=by
 unfold q33.F
 rw [sub2 hs]
 refine use_eq k ?_
 unfold fitsS
 rw [Bool.eq_iff_iff,beq_iff_eq,beq_iff_eq]
 exact⟨fun h=>h.symm,fun h=>h.symm⟩
theorem fitsM_ok {d:Disk} {s:Super} (hs:d.sure.length≤1000000) {K:Bool->Prop} (k:K (fitsS d s)):q69.F d s K:=by
 unfold q69.F
 rw [sub2 hs]
 exact k
theorem ref07_Load_ok {N:Nat} {d:Disk} (hN:N≤100000) (o:OkD N d) {K:(Super×Int)->Prop} (k:K (loadS d)):q34.F d K:=by
 unfold q34.F q34.FV
 unfold loadS at k
 have hs:=o.s
 have hc:=o.c
 have hr:=read_le o 0
 refine ref04_Read_ok (by omega) (cond_ok (fun h1=>?_) (fun h1=>?_))
 ·rw [if_pos (by simpa using h1)] at k;exact k
 rw [if_neg (by simpa using h1)] at k
 refine supDecode_ok (by omega) (cond_ok (fun h2=>?_) (fun h2=>?_))
 ·rw [if_pos (by simpa using h2)] at k;exact k
 rw [if_neg (by simpa using h2)] at k
 refine fits7_ok (by omega) (cond_ok (fun h3=>?_) (fun h3=>?_))
 ·rw [if_neg (by rw [not_t h3];simp)] at k;exact k
 ·rw [if_pos (not_f h3)] at k;exact k
theorem ref07_Commit_ok {N:Nat} {d:Disk} {s:Super} (hN:N≤10000) (h64:64≤N) (o:OkD N d) (w:wSup s) {K:(Disk×Int)->Prop} (k:K (commitD d s)):q122.F d s K:=by
 unfold q122.F q122.FV
 unfold commitD at k
 have hs:=o.s
 refine supEncode_ok w ?_
 unfold encS6
 by_cases hr:supR s=true
 ·rw [if_pos hr]
  refine cond_f rfl (fits7_ok (by omega) (cond_ok (fun h2=>?_) (fun h2=>?_)))
  ·rw [if_neg (fun h=>by rw [not_t h2] at h;exact absurd h.2 (by simp))] at k;exact k
  rw [if_pos ⟨hr,not_f h2⟩] at k
  refine ref04_Write_ok (by omega) o (cond_ok (fun h3=>?_) (fun h3=>?_))
  ·rw [if_pos (by simpa using h3)] at k;exact k
  ·rw [if_neg (by simpa using h3)] at k
   exact ref04_Flush_ok (N:=N+1) (by omega) (write_ok o h64) k
 ·rw [if_neg hr]
  rw [if_neg (fun h=>hr h.1)] at k
  exact cond_t rfl k
theorem metaCommit_ok {N:Nat} {d:Disk} {s:Super} (hN:N≤10000) (h64:64≤N) (o:OkD N d) (w:wSup s) {K:(Disk×Int)->Prop} (k:K (commitD d s)):q76.F d s K:=by
 unfold q76.F q76.FV
 unfold commitD at k
 have hs:=o.s
 have hc:=o.c
 refine superEncode_ok w ?_
 unfold encS6
 by_cases hr:supR s=true
 ·rw [if_pos hr]
  refine cond_f rfl (fitsM_ok (by omega) (cond_ok (fun h2=>?_) (fun h2=>?_)))
  ·rw [if_neg (fun h=>by rw [not_t h2] at h;exact absurd h.2 (by simp))] at k;exact k
  rw [if_pos ⟨hr,not_f h2⟩] at k
  refine disk_Write_ok (by omega) o.f o.p (cond_ok (fun h3=>?_) (fun h3=>?_))
  ·rw [if_pos (by simpa using h3)] at k;exact k
  ·rw [if_neg (by simpa using h3)] at k
   have o2:=write_ok (i:=0) (data:=sealV (sBytes s)) o h64
   exact disk_Flush_ok (by have:=o2.s;omega) (by have:=o2.c;omega) o2.r o2.f o2.p k
 ·rw [if_neg hr]
  rw [if_neg (fun h=>hr h.1)] at k
  exact cond_t rfl k
def supEq (a b:Super):Bool:=((a.blocks==b.blocks)&&(((a.vector.current==b.vector.current)&&((a.vector.bitmap==b.vector.bitmap)&&(((a.vector.old0==b.vector.old0)&&((a.vector.old1==b.vector.old1)&&true))&&true)))&&((a.inc==b.inc)&&((a.pri==b.pri)&&((a.dis==b.dis)&&true)))))
theorem supEq_iff {a b:Super}:supEq a b=true↔a=b:=by
 obtain ⟨b0,⟨c,bm,o0,o1⟩,i,p,d⟩:=a
 obtain ⟨b0',⟨c',bm',o0',o1'⟩,i',p',d'⟩:=b
 unfold supEq
 simp [and_assoc]
theorem ref15_Attach_ok {N:Nat} {d:Disk} (hN:N≤10000) (o:OkD N d) {K:(Store×Int)->Prop} (k:K (stAttach d)):q43.F d K:=by
 unfold q43.F q43.FV
 unfold stAttach at k
 refine ref07_Load_ok (by omega) o (cond_ok (fun h1=>?_) (fun h1=>?_))
 ·rw [if_pos (by simpa using h1)] at k;exact k
 rw [if_neg (by simpa using h1)] at k
 refine ref08_Load_ok (by omega) o (cond_ok (fun h2=>?_) (fun h2=>?_))
 ·rw [if_pos (by simpa using h2)] at k;exact k
 rw [if_neg (by simpa using h2)] at k
 refine ref09_All_ok hN o (cond_ok (fun h3=>?_) (fun h3=>?_))
 ·rw [if_pos (by simpa using h3)] at k;exact k
 ·rw [if_neg (by simpa using h3)] at k;exact k
section
variable {N:Nat} {s:Store} (hN:N≤10000) (h64:64≤N) (o:OkS N s)
include hN h64 o
theorem ref15_Commit_ok {b:Super} (w:wSup b) {K:(Store×Int)->Prop} (k:K (stCommit s b)):q123.F s b K:=by
 unfold q123.F q123.FV
 unfold stCommit at k
 refine cond_ok (fun h1=>?_) (fun h1=>?_)
 ·rw [if_pos (supEq_iff.1 h1)] at k;exact k
 rw [if_neg (fun e=>by have h1:supEq b s.sup=false:=h1;rw [supEq_iff.2 e] at h1;cases h1)] at k
 refine ref07_Commit_ok hN h64 o.d w (cond_ok (fun h2=>?_) (fun h2=>?_))
 ·rw [if_pos (by simpa using h2)] at k;exact k
 ·rw [if_neg (by simpa using h2)] at k;exact k
theorem storeCommit_ok {b:Super} (w:wSup b) {K:(Store×Int)->Prop} (k:K (stCommit s b)):q77.F s b K:=by
 unfold q77.F q77.FV
 unfold stCommit at k
 refine cond_ok (fun h1=>?_) (fun h1=>?_)
 ·rw [if_pos (supEq_iff.1 h1)] at k;exact k
 rw [if_neg (fun e=>by have h1:supEq b s.sup=false:=h1;rw [supEq_iff.2 e] at h1;cases h1)] at k
 refine metaCommit_ok hN h64 o.d w (cond_ok (fun h2=>?_) (fun h2=>?_))
 ·rw [if_pos (by simpa using h2)] at k;exact k
 ·rw [if_neg (by simpa using h2)] at k;exact k
theorem ref15_save_ok {m:Int} (hm:inK .u32 m) {K:(Store×Int)->Prop} (k:K (stSave s m)):q137.F s m K:=by
 unfold q137.F q137.FV
 unfold stSave at k
 refine cond_ok (fun h1=>?_) (fun h1=>?_)
 ·rw [if_pos (by simpa using h1)] at k;exact k
 rw [if_neg (by simpa using h1)] at k
 have:=ref08_Save_ok (d:=s.disk) (m:=m.toNat) (K:=fun r1=>bif r1.2==0 then K (⟨r1.1,s.sup,m⟩,r1.2)else K (⟨r1.1,s.sup,s.mask⟩,r1.2)) (u32_toNat hm).1 hN h64 o.d (cond_ok (fun h2=>by
  rw [if_pos (by simpa using h2)] at k;exact k) (fun h2=>by
  rw [if_neg (by simpa using h2)] at k;exact k))
 rwa [(u32_toNat hm).2] at this
theorem ref15_Mark_ok {i:Int} {K:(Store×Int)->Prop} (k:K (stMark s i)):q138.F s i K:=by
 unfold q138.F q138.FV
 unfold stMark at k
 refine cond_ok (fun h1=>?_) (fun h1=>cond_ok (fun h2=>?_) (fun h2=>?_))
 ·have h1:i < 0:=of_decide_eq_true h1
  rw [if_neg (by omega)] at k;exact k
 ·have h2:i≥s.sup.blocks:=of_decide_eq_true h2
  rw [if_neg (by omega)] at k;exact k
 ·have h1:¬ i < 0:=of_decide_eq_false h1
  have h2:¬ i≥s.sup.blocks:=of_decide_eq_false h2
  rw [if_pos (by omega)] at k
  exact ref03_Set_ok (by simp) o.m (ref15_save_ok hN h64 o (setL_u32 _ _ o.m) k)
theorem ref15_Wipe_ok {i:Int} {K:(Store×Int)->Prop} (k:K (stWipe s i)):q174.F s i K:=by
 unfold q174.F q174.FV
 unfold stWipe at k
 refine cond_ok (fun h1=>?_) (fun h1=>cond_ok (fun h2=>?_) (fun h2=>?_))
 ·have h1:i < 0:=of_decide_eq_true h1
  rw [if_neg (by omega)] at k;exact k
 ·have h2:i≥s.sup.blocks:=of_decide_eq_true h2
  rw [if_neg (by omega)] at k;exact k
 have h1:¬ i < 0:=of_decide_eq_false h1
 have h2:¬ i≥s.sup.blocks:=of_decide_eq_false h2
 rw [if_pos (by omega)] at k
 unfold stNote at k
 refine ref03_Clear_ok o.m (cond_ok (fun h3=>?_) (fun h3=>?_))
 ·rw [if_pos (by simpa using h3)] at k;exact k
 rw [if_neg (by simpa using h3)] at k
 have hm:=clr_u32 (i:=i) o.m
 have:=ref08_Note_ok (d:=s.disk) (m:=(clrM s.mask i).toNat) (K:=fun r2=>bif r2.2==0 then K (⟨r2.1,s.sup,clrM s.mask i⟩,r2.2)else K (⟨r2.1,s.sup,s.mask⟩,r2.2)) (u32_toNat hm).1 (by omega) o.d (cond_ok (fun h2=>by
  rw [if_pos (by simpa using h2)] at k;exact k) (fun h2=>by
  rw [if_neg (by simpa using h2)] at k;exact k))
 rwa [(u32_toNat hm).2] at this
theorem ref15_Join_ok {m:Int} (hm:inK .u32 m) {K:(Store×Int)->Prop} (k:K (stJoin s m)):q167.F s m K:=by
 unfold q167.F q167.FV
 exact ref03_Union_ok o.m hm (ref15_save_ok hN h64 o (or_u32 o.m hm) k)
theorem ref15_Put_ok {i:Int} {data:Str} {K:(Store×Int)->Prop} (k:K (stPut s i data)):q141.F s i data K:=by
 unfold q141.F q141.FV
 exact ref09_Put_ok hN h64 o.d k
omit h64 in
theorem ref15_Read_ok {i:Int} {K:(Str×Int)->Prop} (k:K (stRead s i)):q130.F s i K:=by
 unfold q130.F q130.FV
 exact ref09_Read_ok (by omega) o.d k
end
end Gm

set_option maxRecDepth 100000
namespace Gm
open Go
theorem eq_t {a b:Int} (h:(a==b)=true):a=b:=eq_of_beq h
theorem eq_f {a b:Int} (h:(a==b)=false):a≠b:=by simpa using h
theorem ne_t {a b:Int} (h:(a != b)=true):a≠b:=by simpa using h
theorem ne_f {a b:Int} (h:(a != b)=false):a=b:=by simpa using h
theorem nt {b:Bool} (h:b=false):¬ b=true:=by rw [h];simp
theorem nf {b:Bool} (h:b=true):¬ b=false:=by rw [h];simp
theorem onto_ok {kind source:Int} {t:Hello} {K:Verdict->Prop} (k:K (ontoV kind source t)):q159.F kind source t K:=by
 unfold q159.F q159.FV q156.F
 unfold ontoV noVer at k
 refine cond_ok (fun h1=>?_) (fun h1=>cond_ok (fun h2=>?_) (fun h2=>?_))
 ·rw [if_pos (.inl h1)] at k;exact k
 ·rw [if_pos (.inr (eq_t h2))] at k;exact k
 ·rw [if_neg (fun h=>h.elim (nt h1) (eq_f h2))] at k;exact k
theorem half_ok {s t:Hello} {K:Int->Prop} (k:K (halfV s t)):q158.F s t K:=by
 unfold q158.F q158.FV
 unfold halfV at k
 refine cond_ok (fun h1=>?_) (fun h1=>ref05_Place_ok (cond_ok (fun h2=>?_) (fun h2=>cond_ok (fun h3=>?_) (fun h3=>ref05_Place_ok (cond_ok (fun h4=>?_) (fun h4=>cond_ok (fun h5=>?_) (fun h5=>?_)))))))
 ·rw [if_pos h1] at k;exact k
 all_goals rw [if_neg (nt h1)] at k
 ·rw [if_pos (of_decide_eq_true h2)] at k;exact k
 all_goals rw [if_neg (of_decide_eq_false h2)] at k
 ·rw [if_pos h3] at k;exact k
 all_goals rw [if_neg (nt h3)] at k
 ·rw [if_pos (of_decide_eq_true h4)] at k;exact k
 all_goals rw [if_neg (of_decide_eq_false h4)] at k
 ·rw [if_pos (of_decide_eq_true h5)] at k;exact k
 ·rw [if_neg (of_decide_eq_false h5)] at k;exact k
theorem place_le (v:Vec) (g:Int):place v g≤3∧-1≤place v g:=by
 unfold place
 repeat' split
 all_goals decide
def byGens (x y:Hello):Verdict:=
 if place x.vector y.vector.current > 0∧place y.vector x.vector.current < 0 then ontoV (kindsV (place x.vector y.vector.current)) 0 y
 else if place y.vector x.vector.current > 0∧place x.vector y.vector.current < 0 then ontoV (kindsV (place y.vector x.vector.current)) 1 x
 else noVer
def sameGen (x y:Hello):Verdict:=
 if x.mask=0∧y.mask=0 then ⟨1,-1⟩
 else if y.pri=true∨(x.pri=false∧y.was=true∧x.was=false)then ontoV 2 1 x
 else ontoV 2 0 y
def noHalf (x y:Hello):Verdict:=if x.vector.current=y.vector.current then sameGen x y else byGens x y
theorem decide_of (x y:Hello):decideV x y =
  if x.blocks≠y.blocks∨(x.pri=true∧y.pri=true)∨(x.inc=true∧y.inc=true)∨(x.dis=true∧y.dis=true)then noVer
  else if x.inc=true then ontoV (halfV y x) 1 x
  else if y.inc=true then ontoV (halfV x y) 0 y
  else if x.dis=true then ontoV 3 1 x
  else if y.dis=true then ontoV 3 0 y
  else noHalf x y:=rfl
theorem kinds_cond {p:Int} (hp:p≤3) (h0:p > 0) {s:Int} {t:Hello} {K:Verdict->Prop} (k:K (ontoV (kindsV p) s t)) :
  bif p==0 then q159.F 4 s t K else bif p==1 then q159.F 2 s t K else bif p==2 then q159.F 3 s t K else bif p==3 then q159.F 3 s t K else False:=by
 unfold kindsV at k
 refine cond_ok (fun h1=>?_) (fun h1=>cond_ok (fun h2=>?_) (fun h2=>cond_ok (fun h3=>?_) (fun h3=>cond_ok (fun h4=>?_) (fun h4=>?_))))
 ·have:=eq_t h1;omega
 ·have:=eq_t h2
  subst this
  exact onto_ok k
 ·have:=eq_t h3
  subst this
  exact onto_ok k
 ·have:=eq_t h4
  subst this
  exact onto_ok k
 ·have:=eq_f h1
  have:=eq_f h2
  have:=eq_f h3
  have:=eq_f h4
  omega
theorem gens_ok {x y:Hello} {K:Verdict->Prop} (k:K (byGens x y)) :
  q157.F x.vector y.vector.current fun r21=>q157.F y.vector x.vector.current fun r22=>
   bif decide (r21 > 0)then
    bif decide (r22 < 0)then bif r21==0 then q159.F 4 0 y K else bif r21==1 then q159.F 2 0 y K else bif r21==2 then q159.F 3 0 y K else bif r21==3 then q159.F 3 0 y K else False
    else bif decide (r22 > 0)then
     bif decide (r21 < 0)then bif r22==0 then q159.F 4 1 x K else bif r22==1 then q159.F 2 1 x K else bif r22==2 then q159.F 3 1 x K else bif r22==3 then q159.F 3 1 x K else False
     else q156.F K
    else q156.F K
   else bif decide (r22 > 0)then
     bif decide (r21 < 0)then bif r22==0 then q159.F 4 1 x K else bif r22==1 then q159.F 2 1 x K else bif r22==2 then q159.F 3 1 x K else bif r22==3 then q159.F 3 1 x K else False
     else q156.F K
    else q156.F K:=by
 refine ref05_Place_ok (ref05_Place_ok ?_)
 unfold byGens at k
 have p1:=(place_le x.vector y.vector.current).1
 have p2:=(place_le y.vector x.vector.current).1
 generalize place x.vector y.vector.current=p at k p1 ⊢
 generalize place y.vector x.vector.current=q at k p2 ⊢
 have second:¬ (p > 0∧q < 0)->bif decide (q > 0)then
     bif decide (p < 0)then bif q==0 then q159.F 4 1 x K else bif q==1 then q159.F 2 1 x K else bif q==2 then q159.F 3 1 x K else bif q==3 then q159.F 3 1 x K else False
     else q156.F K
    else q156.F K:=by
  intro hn
  rw [if_neg hn] at k
  refine cond_ok (fun h1=>cond_ok (fun h2=>?_) (fun h2=>?_)) (fun h1=>?_)
  ·rw [if_pos ⟨of_decide_eq_true h1,of_decide_eq_true h2⟩] at k
   exact kinds_cond p2 (of_decide_eq_true h1) k
  ·rw [if_neg (fun h=>of_decide_eq_false h2 h.2)] at k;exact k
  ·rw [if_neg (fun h=>of_decide_eq_false h1 h.1)] at k;exact k
 refine cond_ok (fun h1=>cond_ok (fun h2=>?_) (fun h2=>?_)) (fun h1=>?_)
 ·rw [if_pos ⟨of_decide_eq_true h1,of_decide_eq_true h2⟩] at k
  exact kinds_cond p1 (of_decide_eq_true h1) k
 ·exact second (fun h=>of_decide_eq_false h2 h.2)
 ·exact second (fun h=>of_decide_eq_false h1 h.1)
theorem sameGen_ok {x y:Hello} {K:Verdict->Prop} (k:K (sameGen x y)) :
  bif x.mask==0 then
   bif y.mask==0 then K ⟨1,-1⟩ else bif y.pri then q159.F 2 1 x K else bif !x.pri then bif y.was then bif !x.was then q159.F 2 1 x K else q159.F 2 0 y K else q159.F 2 0 y K else q159.F 2 0 y K
  else bif y.pri then q159.F 2 1 x K else bif !x.pri then bif y.was then bif !x.was then q159.F 2 1 x K else q159.F 2 0 y K else q159.F 2 0 y K else q159.F 2 0 y K:=by
 unfold sameGen at k
 have second:¬ (x.mask=0∧y.mask=0)->bif y.pri then q159.F 2 1 x K else bif !x.pri then bif y.was then bif !x.was then q159.F 2 1 x K else q159.F 2 0 y K else q159.F 2 0 y K else q159.F 2 0 y K:=by
  intro hn
  rw [if_neg hn] at k
  refine cond_ok (fun h1=>?_) (fun h1=>cond_ok (fun h2=>cond_ok (fun h3=>cond_ok (fun h4=>?_) (fun h4=>?_)) (fun h3=>?_)) (fun h2=>?_))
  ·rw [if_pos (.inl h1)] at k;exact onto_ok k
  ·rw [if_pos (.inr ⟨not_t h2,h3,not_t h4⟩)] at k;exact onto_ok k
  ·rw [if_neg (fun h=>h.elim (nt h1) (fun h=>nf (not_f h4) h.2.2))] at k;exact onto_ok k
  ·rw [if_neg (fun h=>h.elim (nt h1) (fun h=>nt h3 h.2.1))] at k;exact onto_ok k
  ·rw [if_neg (fun h=>h.elim (nt h1) (fun h=>nf (not_f h2) h.1))] at k;exact onto_ok k
 refine cond_ok (fun h1=>cond_ok (fun h2=>?_) (fun h2=>?_)) (fun h1=>?_)
 ·rw [if_pos ⟨eq_t h1,eq_t h2⟩] at k;exact k
 ·exact second (fun h=>eq_f h2 h.2)
 ·exact second (fun h=>eq_f h1 h.1)
theorem noHalf_ok {x y:Hello} {K:Verdict->Prop} {p q:Prop} (k:K (noHalf x y)) (h1:K (sameGen x y)->p) (h2:K (byGens x y)->q):bif x.vector.current==y.vector.current then p else q:=by
 unfold noHalf at k
 refine cond_ok (fun h=>?_) (fun h=>?_)
 ·rw [if_pos (eq_t h)] at k;exact h1 k
 ·rw [if_neg (eq_f h)] at k;exact h2 k
def samP (x y:Hello) (K:Verdict->Prop):Prop:=
 bif x.mask==0 then
   bif y.mask==0 then K ⟨1,-1⟩ else bif y.pri then q159.F 2 1 x K else bif !x.pri then bif y.was then bif !x.was then q159.F 2 1 x K else q159.F 2 0 y K else q159.F 2 0 y K else q159.F 2 0 y K
  else bif y.pri then q159.F 2 1 x K else bif !x.pri then bif y.was then bif !x.was then q159.F 2 1 x K else q159.F 2 0 y K else q159.F 2 0 y K else q159.F 2 0 y K
def genP (x y:Hello) (K:Verdict->Prop):Prop:=
 q157.F x.vector y.vector.current fun r21=>q157.F y.vector x.vector.current fun r22=>
   bif decide (r21 > 0)then
    bif decide (r22 < 0)then bif r21==0 then q159.F 4 0 y K else bif r21==1 then q159.F 2 0 y K else bif r21==2 then q159.F 3 0 y K else bif r21==3 then q159.F 3 0 y K else False
    else bif decide (r22 > 0)then
     bif decide (r21 < 0)then bif r22==0 then q159.F 4 1 x K else bif r22==1 then q159.F 2 1 x K else bif r22==2 then q159.F 3 1 x K else bif r22==3 then q159.F 3 1 x K else False
     else q156.F K
    else q156.F K
   else bif decide (r22 > 0)then
     bif decide (r21 < 0)then bif r22==0 then q159.F 4 1 x K else bif r22==1 then q159.F 2 1 x K else bif r22==2 then q159.F 3 1 x K else bif r22==3 then q159.F 3 1 x K else False
     else q156.F K
    else q156.F K
def tailP (x y:Hello) (K:Verdict->Prop):Prop:=
 bif x.inc then q158.F y x fun r=>q159.F r 1 x K else bif y.inc then q158.F x y fun r=>q159.F r 0 y K else bif x.dis then q159.F 3 1 x K else bif y.dis then q159.F 3 0 y K else
  bif x.vector.current==y.vector.current then samP x y K else genP x y K
def disP (x y:Hello) (K:Verdict->Prop):Prop:=bif x.dis then bif y.dis then q156.F K else tailP x y K else tailP x y K
def incP (x y:Hello) (K:Verdict->Prop):Prop:=bif x.inc then bif y.inc then q156.F K else disP x y K else disP x y K
theorem decide_ok {x y:Hello} {K:Verdict->Prop} (k:K (decideV x y)):q160.F x y K:=by
 unfold q160.F q160.FV
 rw [decide_of] at k
 refine cond_ok (fun h1=>?_) (fun h1=>?_)
 ·rw [if_pos (.inl (ne_t h1))] at k;exact k
 have h1:=ne_f h1
 have rest:¬ (x.pri=true∧y.pri=true)->¬ (x.inc=true∧y.inc=true)->¬ (x.dis=true∧y.dis=true)->K (if x.inc=true then ontoV (halfV y x) 1 x
  else if y.inc=true then ontoV (halfV x y) 0 y
  else if x.dis=true then ontoV 3 1 x
  else if y.dis=true then ontoV 3 0 y
  else noHalf x y):=fun a b c=>by
   rw [if_neg (fun h=>h.elim (fun h=>h h1) (fun h=>h.elim a (fun h=>h.elim b c)))] at k
   exact k
 have bad:(x.pri=true∧y.pri=true)∨(x.inc=true∧y.inc=true)∨(x.dis=true∧y.dis=true)->K noVer:=fun h=>by
  rw [if_pos (.inr h)] at k
  exact k
 clear k
 have tail:¬ (x.pri=true∧y.pri=true)->¬ (x.inc=true∧y.inc=true)->¬ (x.dis=true∧y.dis=true)->tailP x y K:=by
  intro hp hi hd
  have k:=rest hp hi hd
  unfold tailP
  refine cond_ok (fun h1=>?_) (fun h1=>cond_ok (fun h2=>?_) (fun h2=>cond_ok (fun h3=>?_) (fun h3=>cond_ok (fun h4=>?_) (fun h4=>?_))))
  ·rw [if_pos h1] at k;exact half_ok (onto_ok k)
  all_goals rw [if_neg (nt h1)] at k
  ·rw [if_pos h2] at k;exact half_ok (onto_ok k)
  all_goals rw [if_neg (nt h2)] at k
  ·rw [if_pos h3] at k;exact onto_ok k
  all_goals rw [if_neg (nt h3)] at k
  ·rw [if_pos h4] at k;exact onto_ok k
  rw [if_neg (nt h4)] at k
  exact noHalf_ok k sameGen_ok gens_ok
 have dis:¬ (x.pri=true∧y.pri=true)->¬ (x.inc=true∧y.inc=true)->disP x y K:=fun hp hi=>
  cond_ok (fun h1=>cond_ok (fun h2=>bad (.inr (.inr ⟨h1,h2⟩))) (fun h2=>tail hp hi (fun h=>nt h2 h.2))) (fun h1=>tail hp hi (fun h=>nt h1 h.1))
 have inc:¬ (x.pri=true∧y.pri=true)->incP x y K:=fun hp=>
  cond_ok (fun h1=>cond_ok (fun h2=>bad (.inr (.inl ⟨h1,h2⟩))) (fun h2=>dis hp (fun h=>nt h2 h.2))) (fun h1=>dis hp (fun h=>nt h1 h.1))
 show bif x.pri then bif y.pri then q156.F K else incP x y K else incP x y K
 exact cond_ok (fun h1=>cond_ok (fun h2=>bad (.inl ⟨h1,h2⟩)) (fun h2=>inc (fun h=>nt h2 h.2))) (fun h1=>inc (fun h=>nt h1 h.1))
theorem bits_ok {v:Verdict} {x y:Hello} (hx:wHello x) (hy:wHello y) {K:Int->Prop} (k:K (bitsV v x y)):q164.F v x y K:=by
 unfold q164.F q164.FV
 unfold bitsV at k
 refine cond_ok (fun h1=>?_) (fun h1=>cond_ok (fun h2=>?_) (fun h2=>?_))
 ·rw [if_pos (eq_t h1)] at k;exact ref03_Union_ok hx.2.2 hy.2.2 k
 ·rw [if_neg (eq_f h1),if_pos (eq_t h2)] at k;exact ref03_All_ok k
 ·rw [if_neg (eq_f h1),if_neg (eq_f h2)] at k;exact k
theorem out_ok {n:Nat} (h:n≤100000):decide (n * 48≤room)=true:=fit_ok (by omega)
theorem reply_ok {n:Node} {id e:Int} {data:Str} {K:Outp->Prop} (k:K (replyO n id e data)):q108.F n id e data K:=k
theorem linked_ok {n:Node} {K:Bool->Prop} (k:K (linkedN n)):q110.F n K:=by
 unfold q110.F
 unfold linkedN at k
 refine cond_ok (fun h=>?_) (fun h=>?_)
 ·rw [h,Bool.true_or] at k;exact k
 ·rw [h,Bool.false_or] at k;exact k
theorem send_ok {n:Node} {p:Packet} (hs:inK .u64 n.session) (hw:wHello p.hello) {K:(Int×Str)->Prop} (k:K (n.id,(encP { p with session:=n.session }).1)):q118.F n p K:=by
 unfold q118.F q118.FV
 refine ref13_Encode_ok (p:={ p with session:=n.session }) hw hs ?_
 exact k
theorem down_ok {n:Node} {K:Node->Prop} (k:K (downN n)):q125.F n K:=k
theorem keep7_ok {n:Node} {s:Store} {e:Int} {K:(Node×Bool)->Prop} (k:K (keepN n (s,e))):q139.F n s e K:=by
 unfold q139.F q139.FV
 unfold keepN at k
 refine cond_ok (fun h=>?_) (fun h=>?_)
 ·rw [if_neg (ne_t h)] at k;exact k
 ·rw [if_pos (ne_f h)] at k;exact k
section
variable {N:Nat} {n:Node} (hN:N≤9000) (h64:64≤N) (o:OkN N n)
include hN h64 o
theorem commit_ok {b:Super} (w:wSup b) {K:(Node×Bool)->Prop} (k:K (commitN n b)):q126.F n b K:=by
 unfold q126.F q126.FV
 unfold commitN keepN at k
 refine ref15_Commit_ok (by omega) h64 o.st w (cond_ok (fun h=>?_) (fun h=>?_))
 ·rw [if_neg (ne_t h)] at k;exact k
 ·rw [if_pos (ne_f h)] at k;exact k
end
section
variable {N:Nat} {n:Node} (hN:N≤8000) (h64:64≤N) (o:OkN N n)
include hN h64 o
theorem attach_ok {keeps:List Bool} {K:(Node×Int)->Prop} (k:K (attachN n keeps)):q44.F n keeps K:=by
 unfold q44.F q44.FV
 unfold attachN at k
 have hs:=o.st.d.s
 have hc:=o.st.d.c
 refine cond_ok (fun h=>?_) (fun h=>?_)
 ·rw [if_pos h] at k;exact k
 rw [if_neg (nt h)] at k
 refine ref04_Revive_ok (by omega) (by omega) o.st.d.r (ref15_Attach_ok (by omega) (revive_ok o.st.d keeps) (cond_ok (fun h2=>?_) (fun h2=>?_)))
 ·rw [if_pos (ne_t h2)] at k;exact k
 ·rw [if_neg (fun e=>e (ne_f h2))] at k;exact k
theorem promote_ok {id:Int} {K:NO->Prop} (k:K (promoteN n id)):q127.F n id K:=by
 unfold q127.F q127.FV
 unfold promoteN at k
 refine cond_ok (fun h=>?_) (fun h=>?_)
 ·rw [if_pos (not_t h)] at k;exact k
 rw [if_neg (nf (not_f h))] at k
 refine cond_ok (fun h=>?_) (fun h=>?_)
 ·rw [if_pos h] at k;exact k
 rw [if_neg (nt h)] at k
 refine cond_ok (fun h=>?_) (fun h=>?_)
 ·rw [if_pos h] at k;exact k
 rw [if_neg (nt h)] at k
 refine cond_ok (fun h=>?_) (fun h=>?_)
 ·rw [if_pos h] at k;exact k
 rw [if_neg (nt h)] at k
 refine cond_ok (fun h1=>?_) (fun h1=>?_)
 ·rw [if_pos (.inl (eq_t h1))] at k;exact k
 refine cond_ok (fun h2=>?_) (fun h2=>?_)
 ·rw [if_pos (.inr (.inl (eq_t h2)))] at k;exact k
 refine cond_ok (fun h3=>?_) (fun h3=>?_)
 ·rw [if_pos (.inr (.inr h3))] at k;exact k
 rw [if_neg (fun h=>h.elim (eq_f h1) (fun h=>h.elim (eq_f h2) (nt h3)))] at k
 refine cond_ok (fun h=>?_) (fun h=>?_)
 ·rw [if_pos h] at k;exact k
 rw [if_neg (nt h)] at k
 refine linked_ok (cond_ok (fun h=>?_) (fun h=>?_))
 ·rw [if_pos h] at k
  refine send_ok (by exact o.se) (by exact wZH) ?_
  exact k
 rw [if_neg (nt h)] at k
 refine commit_ok (by omega) h64 o (b:=priS n.store.sup true) o.sup (cond_ok (fun h=>?_) (fun h=>?_))
 ·rw [if_neg (nt (not_t h))] at k;exact k
 ·rw [if_pos (not_f h)] at k;exact k
theorem demote_ok {id:Int} {K:NO->Prop} (k:K (demoteN n id)):q128.F n id K:=by
 unfold q128.F q128.FV
 unfold demoteN at k
 refine cond_ok (fun h=>?_) (fun h=>?_)
 ·rw [if_pos (not_t h)] at k;exact k
 rw [if_neg (nf (not_f h))] at k
 refine cond_ok (fun h=>?_) (fun h=>?_)
 ·rw [if_pos (not_t h)] at k;exact k
 rw [if_neg (nf (not_f h))] at k
 refine cond_ok (fun h1=>?_) (fun h1=>?_)
 ·rw [if_pos (.inl h1)] at k;exact k
 refine cond_ok (fun h2=>?_) (fun h2=>?_)
 ·rw [if_pos (.inr (eq_t h2))] at k;exact k
 rw [if_neg (fun h=>h.elim (nt h1) (eq_f h2))] at k
 have oc:=okN_commit (b:=priS n.store.sup false) o h64 o.sup
 refine commit_ok (by omega) h64 o (b:=priS n.store.sup false) o.sup (cond_ok (fun h=>?_) (fun h=>?_))
 ·rw [if_neg (nt (not_t h))] at k;exact k
 rw [if_pos (not_f h)] at k
 refine linked_ok (cond_ok (fun h=>?_) (fun h=>?_))
 ·dsimp only at k
  rw [if_pos h] at k
  refine send_ok (by exact oc.se) (by exact wZH) ?_
  refine gd_ok (out_ok (by simp)) ?_
  refine reply_ok ?_
  refine gd_ok (out_ok (by simp)) ?_
  exact k
 ·dsimp only at k
  rw [if_neg (nt h)] at k
  refine reply_ok ?_
  refine gd_ok (out_ok (by simp)) ?_
  exact k
theorem discard_ok {id:Int} {K:NO->Prop} (k:K (discardN n id)):q129.F n id K:=by
 unfold q129.F q129.FV
 unfold discardN at k
 refine cond_ok (fun h=>?_) (fun h=>?_)
 ·rw [if_pos (not_t h)] at k;exact k
 rw [if_neg (nf (not_f h))] at k
 refine cond_ok (fun h=>?_) (fun h=>?_)
 ·rw [if_pos h] at k;exact k
 rw [if_neg (nt h)] at k
 refine cond_ok (fun h=>?_) (fun h=>?_)
 ·rw [if_pos (ne_t h)] at k;exact k
 rw [if_neg (fun e=>e (ne_f h))] at k
 refine commit_ok (by omega) h64 o (b:={ n.store.sup with dis:=true }) o.sup (cond_ok (fun h=>?_) (fun h=>?_))
 ·rw [if_neg (nt (not_t h))] at k;exact k
 ·rw [if_pos (not_f h)] at k;exact k
theorem nread_ok {id b:Int} {K:NO->Prop} (k:K (readN n id b)):q131.F n id b K:=by
 unfold q131.F q131.FV
 unfold readN at k
 refine cond_ok (fun h=>?_) (fun h=>?_)
 ·rw [if_pos (not_t h)] at k;exact k
 rw [if_neg (nf (not_f h))] at k
 refine cond_ok (fun h=>?_) (fun h=>?_)
 ·rw [if_pos (not_t h)] at k;exact k
 rw [if_neg (nf (not_f h))] at k
 exact ref15_Read_ok (by omega) o.st k
theorem mint_ok {K:(Node×Int)->Prop} (k:K (mintN n)):q133.F n K:=by
 unfold q133.F q133.FV
 unfold mintN at k
 have hd:=o.dl
 have hm:=o.ml
 cases hdr:n.draws with
 | nil=>
  rw [hdr] at k
  exact cond_t rfl k
 | cons g r=>
  rw [hdr] at k hd
  have hg:inK .u64 g:=o.dg g (by rw [hdr];simp)
  have e:sub (g :: r) (Int.toNat 1) (g :: r).length=r:=by
   unfold sub
   rw [List.take_length]
   rfl
  refine cond_f (by rw [List.length_cons];exact beq_eq_false_iff_ne.2 (by omega)) (oget_ok (v:=g) rfl (gd_ok (by rw [List.length_cons];simp;omega) (gd_ok (fit_ok (by rw [e];simp at hd;omega)) ?_)))
  rw [e]
  dsimp only at k
  refine cond_ok (fun h=>?_) (fun h=>?_)
  ·rw [if_pos (eq_t h)] at k;exact k
  rw [if_neg (eq_f h)] at k
  refine gd_ok (fit_ok (by omega)) ?_
  refine gd_ok (fit_ok (by rw [List.length_singleton];omega)) ?_
  refine ref05_Mint_ok ?_
  rw [if_neg (eq_f h)]
  have hr:∀ x∈r,inK .u64 x:=fun x hx=>o.dg x (by rw [hdr];exact List.mem_cons_of_mem _ hx)
  have om:OkN (N+1) { n with draws:=r,mints:=n.mints++[⟨g,n.store.sup.vector.current,n.id⟩] }:=
   ⟨o.st.up (by omega),o.se,o.pe,o.rq,by show r.length≤N+1;simp at hd;omega,hr,by
     show(n.mints++[_]).length≤N+1
     simp;omega,o.wa⟩
  refine commit_ok (N:=N+1) (by omega) (by omega) om (b:={ n.store.sup with vector:=mintVec n.store.sup.vector g }) ⟨o.st.b,mint_vec o.st.v hg⟩ (cond_ok (fun h=>?_) (fun h=>?_))
  ·rw [if_neg (nt (not_t h))] at k;exact k
  ·rw [if_pos (not_f h)] at k;exact k
end
end Gm

set_option maxRecDepth 100000
namespace Gm
open Go
theorem zero6:¬ ((0:Int)=6):=by decide
theorem zero0:¬ ((0:Int)≠0):=by decide
theorem own_ok {n:Node} {K:Hello->Prop} (k:K (ownN n)):q145.F n K:=by
 unfold q145.F q145.FV
 exact ref10_Of_ok k
theorem verdict_ok {N:Nat} {n:Node} {h:Hello} (o:OkN N n) (hh:wHello h) {K:(Verdict×Int)->Prop} (k:K (verdictN n h)):q165.F n h K:=by
 unfold q165.F q165.FV
 unfold verdictN at k
 dsimp only at k
 have hw:=own_w o
 refine own_ok (cond_ok (fun h1=>?_) (fun h1=>?_))
 ·rw [if_pos (eq_t h1),if_pos (eq_t h1)] at k
  exact own_ok (decide_ok (bits_ok hh hw k))
 ·rw [if_neg (eq_f h1),if_neg (eq_f h1)] at k
  exact decide_ok (bits_ok hw hh k)
section
variable {N:Nat} {n:Node} (hN:N≤8000) (h64:64≤N) (o:OkN N n)
include hN h64 o
theorem lay_ok {b:Int} {data:Str} {K:(Node×Bool)->Prop} (k:K (layN n b data)):q142.F n b data K:=by
 unfold q142.F q142.FV
 unfold layN at k
 dsimp only at k
 have ok1:=okN_keep o (okS_mark (i:=b) o.st h64)
 refine ref15_Mark_ok (by omega) h64 o.st (keep7_ok (cond_ok (fun h=>?_) (fun h=>?_)))
 ·rw [if_neg (nt (not_t h))] at k;exact k
 ·rw [if_pos (not_f h)] at k
  exact ref15_Put_ok (N:=N+1) (by omega) (by omega) ok1.st (keep7_ok k)
theorem wipe_ok {b:Int} {K:(Node×Bool)->Prop} (k:K (wipeN n b)):q175.F n b K:=by
 unfold q175.F q175.FV
 exact ref15_Wipe_ok (by omega) h64 o.st (keep7_ok k)
def wroteN (n:Node) (id b:Int) (data:Str):NO:=
 if (layN n b data).2=false then((layN n b data).1,[])
 else if (layN n b data).1.state=0 then((layN n b data).1,[replyO (layN n b data).1 id 0 []])
 else({ (layN n b data).1 with req:=⟨true,id,b,data⟩ },[sendO { (layN n b data).1 with req:=⟨true,id,b,data⟩ } (pk 2 b data)])
theorem wrote_ok {id b:Int} {data:Str} {K:NO->Prop} (k:K (wroteN n id b data)) :
  q142.F n b data fun r10=>(bif(!r10.2)then(K (r10.1,([]:List Outp)))else(bif(r10.1.state==0)then(q108.F r10.1 id 0 ([]:Str) fun r11=>(K (r10.1,([r11]:List Outp))))else(q118.F (⟨r10.1.id,r10.1.up,r10.1.store,r10.1.primary,r10.1.state,r10.1.session,r10.1.peer,r10.1.peerPri,(⟨true,id,b,data⟩:Req),r10.1.asking,r10.1.askId,r10.1.wanted,r10.1.minted,r10.1.draws,r10.1.mints⟩:Node) (⟨2,0,(⟨0,(⟨0,0,0,0⟩:Vec),false,false,false,false,0⟩:Hello),b,data⟩:Packet) fun r12=>(K ((⟨r10.1.id,r10.1.up,r10.1.store,r10.1.primary,r10.1.state,r10.1.session,r10.1.peer,r10.1.peerPri,(⟨true,id,b,data⟩:Req),r10.1.asking,r10.1.askId,r10.1.wanted,r10.1.minted,r10.1.draws,r10.1.mints⟩:Node),([(⟨1,r12.1,0,0,r12.2⟩:Outp)]:List Outp)))))):=by
 unfold wroteN at k
 have ol:=okN_lay (b:=b) (data:=data) o h64
 refine lay_ok hN h64 o (cond_ok (fun h=>?_) (fun h=>?_))
 ·rw [if_pos (not_t h)] at k;exact k
 rw [if_neg (nf (not_f h))] at k
 refine cond_ok (fun h=>?_) (fun h=>?_)
 ·rw [if_pos (eq_t h)] at k;exact k
 rw [if_neg (eq_f h)] at k
 refine send_ok (by exact ol.se) (by exact wZH) ?_
 exact k
end
theorem write_of (n:Node) (id b:Int) (data:Str):writeN n id b data =
 if n.up=false then refuseN n id 7
 else if n.primary=false then refuseN n id 8
 else if b < 0∨b≥n.store.sup.blocks then refuseN n id 4
 else if data.length≠8 then refuseN n id 5
 else if n.req.on=true∨n.state=1 then refuseN n id 11
 else if (if n.state=0∧n.minted=false then mintN n else(n,0)).2=6 then((if n.state=0∧n.minted=false then mintN n else(n,0)).1,[])
 else if (if n.state=0∧n.minted=false then mintN n else(n,0)).2≠0 then((if n.state=0∧n.minted=false then mintN n else(n,0)).1,[replyO (if n.state=0∧n.minted=false then mintN n else(n,0)).1 id (if n.state=0∧n.minted=false then mintN n else(n,0)).2 []])
 else wroteN (if n.state=0∧n.minted=false then mintN n else(n,0)).1 id b data:=rfl
section
variable {N:Nat} {n:Node} (hN:N≤7000) (h64:64≤N) (o:OkN N n)
include hN h64 o
theorem write7_ok {id b:Int} {data:Str} {K:NO->Prop} (k:K (writeN n id b data)):q143.F n id b data K:=by
 unfold q143.F q143.FV
 rw [write_of] at k
 refine cond_ok (fun h=>?_) (fun h=>?_)
 ·rw [if_pos (not_t h)] at k;exact k
 rw [if_neg (nf (not_f h))] at k
 refine cond_ok (fun h=>?_) (fun h=>?_)
 ·rw [if_pos (not_t h)] at k;exact k
 rw [if_neg (nf (not_f h))] at k
 refine cond_ok (fun h1=>?_) (fun h1=>?_)
 ·rw [if_pos (.inl (of_decide_eq_true h1))] at k;exact k
 refine cond_ok (fun h2=>?_) (fun h2=>?_)
 ·rw [if_pos (.inr (of_decide_eq_true h2))] at k;exact k
 rw [if_neg (fun h=>h.elim (of_decide_eq_false h1) (of_decide_eq_false h2))] at k
 refine cond_ok (fun h=>?_) (fun h=>?_)
 ·rw [if_pos (bne_nat (b:=8) h)] at k;exact k
 rw [if_neg (fun e=>e (bne_nat' (b:=8) h))] at k
 refine cond_ok (fun h1=>?_) (fun h1=>?_)
 ·rw [if_pos (.inl h1)] at k;exact k
 refine cond_ok (fun h2=>?_) (fun h2=>?_)
 ·rw [if_pos (.inr (eq_t h2))] at k;exact k
 rw [if_neg (fun h=>h.elim (nt h1) (eq_f h2))] at k
 refine cond_ok (fun h1=>?_) (fun h1=>?_)
 ·refine cond_ok (fun h2=>?_) (fun h2=>?_)
  ·rw [if_pos (show n.state=0∧n.minted=false from ⟨eq_t h1,not_t h2⟩)] at k
   have om:=okN_mint o h64
   refine mint_ok (by omega) h64 o (cond_ok (fun h3=>?_) (fun h3=>?_))
   ·rw [if_pos (eq_t h3)] at k;exact k
   rw [if_neg (eq_f h3)] at k
   refine cond_ok (fun h4=>?_) (fun h4=>?_)
   ·rw [if_pos (ne_t h4)] at k;exact k
   rw [if_neg (fun e=>e (ne_f h4))] at k
   exact wrote_ok (N:=N+2) (by omega) (by omega) om k
  ·rw [if_neg (show ¬ (n.state=0∧n.minted=false) from fun h=>nf (not_f h2) h.2)] at k
   rw [if_neg (show ¬ ((n,(0:Int)).2=6) from zero6),if_neg (show ¬ ((n,(0:Int)).2≠0) from zero0)] at k
   exact wrote_ok (by omega) h64 o k
 ·rw [if_neg (show ¬ (n.state=0∧n.minted=false) from fun h=>eq_f h1 h.1)] at k
  rw [if_neg (show ¬ ((n,(0:Int)).2=6) from zero6),if_neg (show ¬ ((n,(0:Int)).2≠0) from zero0)] at k
  exact wrote_ok (by omega) h64 o k
theorem apply_ok {b:Int} {data:Str} {K:NO->Prop} (k:K (applyN n b data)):q172.F n b data K:=by
 unfold q172.F q172.FV
 unfold applyN at k
 have ol:=okN_lay (b:=b) (data:=data) o h64
 refine lay_ok (by omega) h64 o (cond_ok (fun h=>?_) (fun h=>?_))
 ·rw [if_neg (nt (not_t h))] at k;exact k
 ·rw [if_pos (not_f h)] at k
  refine send_ok (by exact ol.se) (by exact wZH) ?_
  exact k
theorem acked_ok {b:Int} {K:NO->Prop} (k:K (ackedN n b)):q176.F n b K:=by
 unfold q176.F q176.FV
 unfold ackedN at k
 refine cond_ok (fun h1=>?_) (fun h1=>?_)
 ·rw [if_pos (.inl (not_t h1))] at k;exact k
 refine cond_ok (fun h2=>?_) (fun h2=>?_)
 ·rw [if_pos (.inr (ne_t h2))] at k;exact k
 rw [if_neg (fun h=>h.elim (nf (not_f h1)) (fun e=>e (ne_f h2)))] at k
 dsimp only at k
 have o2:OkN N { n with req:=zR }:=⟨o.st,o.se,o.pe,by show(0:Nat)≤8;omega,o.dl,o.dg,o.ml,o.wa⟩
 have ow:=okN_wipe (b:=b) o2 h64
 refine reply_ok (wipe_ok (n:={ n with req:=zR }) (by omega) h64 o2 (cond_ok (fun h=>?_) (fun h=>?_)))
 ·rw [if_neg (nt (not_t h))] at k;exact k
 ·rw [if_pos (not_f h)] at k
  refine send_ok (by exact ow.se) (by exact wZH) ?_
  refine gd_ok (out_ok (by simp)) ?_
  exact k
theorem cleaned_ok {b:Int} {K:NO->Prop} (k:K (cleanedN n b)):q177.F n b K:=by
 unfold q177.F q177.FV
 exact wipe_ok (by omega) h64 o k
theorem lose_ok {K:NO->Prop} (k:K (loseN n)):q148.F n K:=by
 unfold q148.F q148.FV
 unfold loseN at k
 dsimp only at k
 refine cond_ok (fun h=>?_) (fun h=>?_)
 ·rw [if_pos (eq_t h)] at k;exact k
 rw [if_neg (eq_f h)] at k
 have ob:OkN N (bareN n n.up n.store n.primary):=okN_bare o o.st
 refine cond_ok (fun h=>?_) (fun h=>?_)
 ·rw [if_pos h] at k
  refine reply_ok ?_
  refine gd_ok (out_ok (by simp)) ?_
  refine cond_ok (fun h=>?_) (fun h=>?_)
  ·rw [if_pos (not_t h)] at k;exact k
  rw [if_neg (nf (not_f h))] at k
  refine mint_ok (n:=bareN n n.up n.store n.primary) (by omega) h64 ob (cond_ok (fun h=>?_) (fun h=>?_))
  ·rw [if_pos (eq_t h)] at k;exact k
  rw [if_neg (eq_f h)] at k
  refine reply_ok ?_
  refine gd_ok (out_ok (by simp)) ?_
  exact k
 ·rw [if_neg (nt h)] at k
  refine cond_ok (fun h=>?_) (fun h=>?_)
  ·rw [if_pos (not_t h)] at k;exact k
  rw [if_neg (nf (not_f h))] at k
  refine mint_ok (n:=bareN n n.up n.store n.primary) (by omega) h64 ob (cond_ok (fun h=>?_) (fun h=>?_))
  ·rw [if_pos (eq_t h)] at k;exact k
  rw [if_neg (eq_f h)] at k
  refine reply_ok ?_
  refine gd_ok (out_ok (by simp)) ?_
  exact k
theorem seek_ok {K:NO->Prop} (k:K (seekN n)):q170.F n K:=by
 unfold q170.F q170.FV
 unfold seekN at k
 dsimp only at k
 refine cond_ok (fun h1=>?_) (fun h1=>?_)
 ·rw [if_pos (.inl (not_t h1))] at k;exact k
 refine cond_ok (fun h2=>?_) (fun h2=>?_)
 ·rw [if_pos (.inr (ne_t h2))] at k;exact k
 rw [if_neg (fun h=>h.elim (nf (not_f h1)) (fun e=>e (ne_f h2)))] at k
 have hb:=next_bound n.store.mask
 refine ref03_Next_ok o.st.m (cond_ok (fun h=>?_) (fun h=>?_))
 ·rw [if_pos h] at k
  rw [wrap_i64 (x:=(nextM n.store.mask).1+1) (by omega)]
  refine send_ok (by exact o.se) (by exact wZH) ?_
  exact k
 rw [if_neg (nt h)] at k
 have w:wSup (⟨n.store.sup.blocks,retire n.peer.vector,false,false,false⟩:Super):=⟨o.st.b,retire_vec o.pe.2.1⟩
 have oc:=okN_commit (b:=⟨n.store.sup.blocks,retire n.peer.vector,false,false,false⟩) o h64 w
 refine ref05_Retire_ok (commit_ok (by omega) h64 o w (cond_ok (fun h=>?_) (fun h=>?_)))
 ·rw [if_neg (nt (not_t h))] at k;exact k
 ·rw [if_pos (not_f h)] at k
  refine send_ok (by exact oc.se) (by exact wZH) ?_
  exact k
theorem give_ok {b:Int} {K:NO->Prop} (k:K (giveN n b)):q178.F n b K:=by
 unfold q178.F q178.FV
 refine ref15_Read_ok (by omega) o.st ?_
 refine send_ok (by exact o.se) (by exact wZH) ?_
 exact k
theorem copied_ok {b:Int} {K:NO->Prop} (k:K (copiedN n b)):q180.F n b K:=by
 unfold q180.F q180.FV
 unfold copiedN at k
 refine cond_ok (fun h1=>cond_ok (fun h2=>?_) (fun h2=>?_)) (fun h1=>?_)
 ·rw [if_pos ⟨h1,eq_t h2⟩] at k;exact k
 ·rw [if_neg (fun h=>eq_f h2 h.2)] at k;exact wipe_ok (by omega) h64 o k
 ·rw [if_neg (fun h=>nt h1 h.1)] at k;exact wipe_ok (by omega) h64 o k
theorem ended_ok {K:NO->Prop} (k:K (endedN n)):q181.F n K:=by
 unfold q181.F q181.FV
 unfold endedN at k
 dsimp only at k
 have w:wSup ({ n.store.sup with vector:=retire n.store.sup.vector,pri:=n.primary }:Super):=⟨o.st.b,retire_vec o.st.v⟩
 have oc:=okN_commit (b:={ n.store.sup with vector:=retire n.store.sup.vector,pri:=n.primary }) o h64 w
 refine ref05_Retire_ok (commit_ok (by omega) h64 o w (cond_ok (fun h=>?_) (fun h=>?_)))
 ·rw [if_neg (nt (not_t h))] at k;exact k
 ·rw [if_pos (not_f h)] at k
  refine send_ok (by exact oc.se) (by exact wZH) ?_
  exact k
theorem roles_ok {kd:Int} {K:NO->Prop} (k:K (rolesN n kd)):q183.F n kd K:=by
 unfold q183.F q183.FV
 unfold rolesN at k
 dsimp only at k
 refine cond_ok (fun h=>?_) (fun h=>?_)
 ·rw [if_pos (eq_t h)] at k
  refine cond_ok (fun h1=>?_) (fun h1=>cond_ok (fun h2=>?_) (fun h2=>?_))
  ·rw [if_pos (.inl h1)] at k
   refine send_ok (by exact o.se) (by exact wZH) ?_
   exact k
  ·rw [if_pos (.inr h2)] at k
   refine send_ok (by exact o.se) (by exact wZH) ?_
   exact k
  ·rw [if_neg (fun h=>h.elim (nt h1) (nt h2))] at k
   refine send_ok (by exact o.se) (by exact wZH) ?_
   exact k
 rw [if_neg (eq_f h)] at k
 refine cond_ok (fun h=>?_) (fun h=>?_)
 ·rw [if_pos (eq_t h)] at k;exact k
 rw [if_neg (eq_f h)] at k
 refine cond_ok (fun h=>?_) (fun h=>?_)
 ·rw [if_pos (eq_t h)] at k;exact k
 rw [if_neg (eq_f h)] at k
 refine commit_ok (by omega) h64 o (b:=priS n.store.sup true) o.sup (cond_ok (fun h=>?_) (fun h=>?_))
 ·rw [if_neg (nt (not_t h))] at k;exact k
 ·rw [if_pos (not_f h)] at k;exact k
end
section
variable {N:Nat} {n:Node} (hN:N≤6000) (h64:64≤N) (o:OkN N n)
include hN h64 o
theorem got_ok {b:Int} (hb:0≤b∧b < 9223372036854775807) {data:Str} {K:NO->Prop} (k:K (gotN n b data)):q179.F n b data K:=by
 unfold q179.F q179.FV
 unfold gotN at k
 dsimp only at k
 rw [wrap_i64 (x:=b+1) (by omega)]
 refine cond_ok (fun h=>?_) (fun h=>?_)
 ·rw [if_pos (ne_t h)] at k;exact k
 rw [if_neg (fun e=>e (ne_f h))] at k
 have oa:=okN_keep o (okS_put (i:=b) (data:=data) o.st h64)
 refine ref15_Put_ok (by omega) h64 o.st (keep7_ok (cond_ok (fun h=>?_) (fun h=>?_)))
 ·rw [if_pos (not_t h)] at k;exact k
 rw [if_neg (nf (not_f h))] at k
 have ob:=okN_wipe (b:=b) oa (by omega)
 refine wipe_ok (N:=N+1) (by omega) (by omega) oa (cond_ok (fun h=>?_) (fun h=>?_))
 ·rw [if_pos (not_t h)] at k;exact k
 rw [if_neg (nf (not_f h))] at k
 have ow:=okN_wanted0 ob
 refine send_ok (by exact ow.se) (by exact wZH) ?_
 refine seek_ok (N:=N+2) (by omega) (by omega) ow ?_
 have hl:=(okO_seek { (wipeN (keepN n (stPut n.store b data)).1 b).1 with wanted:=0 }).1
 refine cond_ok (fun h=>?_) (fun h=>?_)
 ·have e:(seekN { (wipeN (keepN n (stPut n.store b data)).1 b).1 with wanted:=0 }).2=[]:=List.eq_nil_of_length_eq_zero (Nat.eq_of_beq_eq_true h)
  rw [e] at k
  exact k
 ·refine gd_ok (out_ok ?_) ?_
  ·rw [List.length_singleton]
   exact Nat.le_trans (Nat.add_le_add_left hl 1) (by decide)
  ·exact k
theorem met_ok {h:Hello} (hh:wHello h) {K:NO->Prop} (k:K (metN n h)):q171.F n h K:=by
 unfold q171.F q171.FV
 unfold metN at k
 dsimp only at k
 refine verdict_ok o hh (cond_ok (fun h1=>?_) (fun h1=>?_))
 ·rw [if_pos (eq_t h1)] at k;exact k
 rw [if_neg (eq_f h1)] at k
 have w:wSup ({ n.store.sup with vector:=retire n.store.sup.vector,pri:=n.primary }:Super):=⟨o.st.b,retire_vec o.st.v⟩
 refine cond_ok (fun h1=>?_) (fun h1=>?_)
 ·rw [if_pos (eq_t h1)] at k
  refine ref05_Retire_ok (commit_ok (by omega) h64 o w (cond_ok (fun h=>?_) (fun h=>?_)))
  ·rw [if_pos h] at k;exact k
  ·rw [if_neg (nt h)] at k;exact k
 rw [if_neg (eq_f h1)] at k
 have hv:=verdict_u32 o hh
 have oj:=okN_keep o (okS_join o.st h64 hv)
 refine ref15_Join_ok (by omega) h64 o.st hv (keep7_ok (cond_ok (fun hj=>?_) (fun hj=>?_)))
 ·rw [if_pos (not_t hj)] at k;exact k
 rw [if_neg (nf (not_f hj))] at k
 refine cond_ok (fun h1=>?_) (fun h1=>?_)
 ·rw [if_pos (eq_t h1)] at k;exact k
 rw [if_neg (eq_f h1)] at k
 have w2:wSup ({ n.store.sup with inc:=true,pri:=false,vector:=fromVec n.store.sup.vector h.vector.current }:Super):=⟨o.st.b,from_vec o.st.v hh.2.1.1⟩
 have oc:=okN_commit (b:={ n.store.sup with inc:=true,pri:=false,vector:=fromVec n.store.sup.vector h.vector.current }) oj (by omega) w2
 refine ref05_From_ok (commit_ok (N:=N+1) (by omega) (by omega) oj w2 (cond_ok (fun h=>?_) (fun h=>?_)))
 ·rw [if_pos (not_t h)] at k;exact k
 ·rw [if_neg (nf (not_f h))] at k
  exact seek_ok (N:=N+2) (by omega) (by omega) (okN_enter oc hh) k
end
def fitK (n:Node) (p:Packet):Bool:=
 if p.kind=1 then n.state==1
 else if p.kind=2 then !n.primary&&(n.state==2||n.state==4)
 else if p.kind=3 then n.state==2||n.state==3
 else if p.kind=4 then n.state==2||n.state==4
 else if p.kind=5∨p.kind=7∨p.kind=8 then n.state==3
 else if p.kind=6 then n.state==4
 else if p.kind=9 then n.state==4 && !n.store.sup.inc
 else if p.kind=10∨p.kind=13 then n.state==2||(n.state==3||n.state==4)
 else if p.kind=11∨p.kind=12 then n.asking&&(n.state==2||(n.state==3||n.state==4))
 else false
theorem fits_of (n:Node) (p:Packet):fitsN n p=if n.up=false∨(blk p.kind=true∧p.block≥n.store.sup.blocks)then false else fitK n p:=rfl
theorem or_ok {a b:Bool} {K:Bool->Prop} (k:K (a||b)):bif a then K true else K b:=by cases a <;> exact k
theorem and_ok {a b:Bool} {K:Bool->Prop} (k:K (a&&b)):bif a then K b else K false:=by cases a <;> exact k
def fitP (n:Node) (p:Packet) (K:Bool->Prop):Prop:=
 (bif(p.kind==1)then(K (n.state==1))else(bif(p.kind==2)then(bif(!n.primary)then(bif(n.state==2)then(K true)else(K (n.state==4)))else(K false))else(bif(p.kind==3)then(bif(n.state==2)then(K true)else(K (n.state==3)))else(bif(p.kind==4)then(bif(n.state==2)then(K true)else(K (n.state==4)))else(bif(p.kind==5)then(K (n.state==3))else(bif(p.kind==7)then(K (n.state==3))else(bif(p.kind==8)then(K (n.state==3))else(bif(p.kind==6)then(K (n.state==4))else(bif(p.kind==9)then(bif(n.state==4)then(K (!n.store.sup.inc))else(K false))else(bif(p.kind==10)then(bif(n.state==2)then(K true)else(bif(n.state==3)then(K true)else(K (n.state==4))))else(bif(p.kind==13)then(bif(n.state==2)then(K true)else(bif(n.state==3)then(K true)else(K (n.state==4))))else(bif(p.kind==11)then(bif n.asking then(bif(n.state==2)then(K true)else(bif(n.state==3)then(K true)else(K (n.state==4))))else(K false))else(bif(p.kind==12)then(bif n.asking then(bif(n.state==2)then(K true)else(bif(n.state==3)then(K true)else(K (n.state==4))))else(K false))else(K false))))))))))))))
theorem three_ok {n:Node} {K:Bool->Prop} (k:K (n.state==2||(n.state==3||n.state==4))):bif(n.state==2)then(K true)else(bif(n.state==3)then(K true)else(K (n.state==4))):=by
 cases h:(n.state==2)
 ·rw [h] at k;exact or_ok k
 ·rw [h] at k;exact k
theorem fitP_ok {n:Node} {p:Packet} {K:Bool->Prop} (k:K (fitK n p)):fitP n p K:=by
 unfold fitP
 unfold fitK at k
 refine cond_ok (fun h1=>?_) (fun h1=>?_)
 ·rw [if_pos (eq_t h1)] at k;exact k
 rw [if_neg (eq_f h1)] at k
 refine cond_ok (fun h1=>?_) (fun h1=>?_)
 ·rw [if_pos (eq_t h1)] at k
  cases hp:n.primary
  ·rw [hp] at k;exact or_ok k
  ·rw [hp] at k;exact k
 rw [if_neg (eq_f h1)] at k
 refine cond_ok (fun h1=>?_) (fun h1=>?_)
 ·rw [if_pos (eq_t h1)] at k;exact or_ok k
 rw [if_neg (eq_f h1)] at k
 refine cond_ok (fun h1=>?_) (fun h1=>?_)
 ·rw [if_pos (eq_t h1)] at k;exact or_ok k
 rw [if_neg (eq_f h1)] at k
 refine cond_ok (fun h5=>?_) (fun h5=>?_)
 ·rw [if_pos (.inl (eq_t h5))] at k;exact k
 refine cond_ok (fun h7=>?_) (fun h7=>?_)
 ·rw [if_pos (.inr (.inl (eq_t h7)))] at k;exact k
 refine cond_ok (fun h8=>?_) (fun h8=>?_)
 ·rw [if_pos (.inr (.inr (eq_t h8)))] at k;exact k
 rw [if_neg (fun h=>h.elim (eq_f h5) (fun h=>h.elim (eq_f h7) (eq_f h8)))] at k
 refine cond_ok (fun h1=>?_) (fun h1=>?_)
 ·rw [if_pos (eq_t h1)] at k;exact k
 rw [if_neg (eq_f h1)] at k
 refine cond_ok (fun h1=>?_) (fun h1=>?_)
 ·rw [if_pos (eq_t h1)] at k;exact and_ok k
 rw [if_neg (eq_f h1)] at k
 refine cond_ok (fun h1=>?_) (fun h1=>?_)
 ·rw [if_pos (.inl (eq_t h1))] at k;exact three_ok k
 refine cond_ok (fun h2=>?_) (fun h2=>?_)
 ·rw [if_pos (.inr (eq_t h2))] at k;exact three_ok k
 rw [if_neg (fun h=>h.elim (eq_f h1) (eq_f h2))] at k
 have ask:K (n.asking&&(n.state==2||(n.state==3||n.state==4)))->bif n.asking then(bif(n.state==2)then(K true)else(bif(n.state==3)then(K true)else(K (n.state==4))))else(K false):=by
  intro k
  cases ha:n.asking
  ·rw [ha] at k;exact k
  ·rw [ha] at k;exact three_ok k
 refine cond_ok (fun h1=>?_) (fun h1=>?_)
 ·rw [if_pos (.inl (eq_t h1))] at k;exact ask k
 refine cond_ok (fun h2=>?_) (fun h2=>?_)
 ·rw [if_pos (.inr (eq_t h2))] at k;exact ask k
 rw [if_neg (fun h=>h.elim (eq_f h1) (eq_f h2))] at k
 exact k
theorem fits16_ok {n:Node} {p:Packet} {K:Bool->Prop} (k:K (fitsN n p)):q155.F n p K:=by
 rw [fits_of] at k
 show bif !n.up then K false else bif decide (p.kind≥2)then bif decide (p.kind≤7)then bif decide (p.block≥n.store.sup.blocks)then K false else fitP n p K else fitP n p K else fitP n p K
 refine cond_ok (fun h=>?_) (fun h=>?_)
 ·rw [if_pos (.inl (not_t h))] at k;exact k
 have hu:=nf (not_f h)
 have no:¬ (blk p.kind=true∧p.block≥n.store.sup.blocks)->fitP n p K:=by
  intro hn
  rw [if_neg (fun h=>h.elim hu hn)] at k
  exact fitP_ok k
 refine cond_ok (fun h1=>cond_ok (fun h2=>cond_ok (fun h3=>?_) (fun h3=>?_)) (fun h2=>?_)) (fun h1=>?_)
 ·rw [if_pos (.inr ⟨decide_eq_true ⟨of_decide_eq_true h1,of_decide_eq_true h2⟩,of_decide_eq_true h3⟩)] at k;exact k
 ·exact no (fun h=>of_decide_eq_false h3 h.2)
 ·exact no (fun h=>of_decide_eq_false h2 (of_decide_eq_true h.1).2)
 ·exact no (fun h=>of_decide_eq_false h1 (of_decide_eq_true h.1).1)
theorem read_block {b:Str} {s:Int} (_:(readP b s).2=0):0≤(readP b s).1.block∧(readP b s).1.block≤1000:=by
 unfold readP
 rcases decP_cases b with ⟨p,h1,h2,_,_,_⟩ | ⟨e,h1,h2⟩
 ·rw [h1]
  have hp:=(right_parts h2).2.2.1
  have hb:0≤p.block∧p.block≤1000:=by
   unfold pBlk at hp
   cases hk:blk p.kind
   ·rw [hk] at hp
    have:=eq_t (show(p.block==0)=true from hp)
    omega
   ·rw [hk] at hp
    have:=of_decide_eq_true (show decide (0≤p.block∧p.block < 32)=true from hp)
    omega
  split
  ·split
   ·exact hb
   ·exact⟨Int.le_refl 0,by show(0:Int)≤1000;decide⟩
  ·exact hb
 ·rw [h2]
  split
  ·split
   ·exact⟨Int.le_refl 0,by show(0:Int)≤1000;decide⟩
   ·exact⟨Int.le_refl 0,by show(0:Int)≤1000;decide⟩
  ·exact⟨Int.le_refl 0,by show(0:Int)≤1000;decide⟩
theorem receive_ok {N:Nat} {n:Node} {b:Str} (hN:N≤6000) (h64:64≤N) (o:OkN N n) (hb:b.length≤10000) {K:NO->Prop} (k:K (receiveN n b)):q184.F n b K:=by
 unfold q184.F q184.FV
 unfold receiveN at k
 refine cond_ok (fun h1=>?_) (fun h1=>?_)
 ·rw [if_pos (.inl (not_t h1))] at k;exact k
 refine cond_ok (fun h2=>?_) (fun h2=>?_)
 ·rw [if_pos (.inr (eq_t h2))] at k;exact k
 rw [if_neg (fun h=>h.elim (nf (not_f h1)) (eq_f h2))] at k
 have hw:=read_w b n.session
 have hbl:=@read_block b n.session
 refine ref13_Read_ok hb ?_
 generalize readP b n.session=r at k hw hbl ⊢
 refine cond_ok (fun h=>?_) (fun h=>?_)
 ·rw [if_pos (eq_t h)] at k;exact k
 rw [if_neg (eq_f h)] at k
 refine cond_ok (fun h1=>?_) (fun h1=>?_)
 ·rw [if_pos (.inl (ne_t h1))] at k;exact k
 have hbl:=hbl (ne_f h1)
 refine fits16_ok (cond_ok (fun h2=>?_) (fun h2=>?_))
 ·rw [if_pos (.inr (not_t h2))] at k;exact k
 rw [if_neg (fun h=>h.elim (fun e=>e (ne_f h1)) (nf (not_f h2)))] at k
 unfold takeN at k
 refine cond_ok (fun h=>?_) (fun h=>?_)
 ·rw [if_pos (eq_t h)] at k;exact met_ok hN h64 o hw k
 rw [if_neg (eq_f h)] at k
 refine cond_ok (fun h=>?_) (fun h=>?_)
 ·rw [if_pos (eq_t h)] at k;exact apply_ok (by omega) h64 o k
 rw [if_neg (eq_f h)] at k
 refine cond_ok (fun h=>?_) (fun h=>?_)
 ·rw [if_pos (eq_t h)] at k;exact acked_ok (by omega) h64 o k
 rw [if_neg (eq_f h)] at k
 refine cond_ok (fun h=>?_) (fun h=>?_)
 ·rw [if_pos (eq_t h)] at k;exact cleaned_ok (by omega) h64 o k
 rw [if_neg (eq_f h)] at k
 refine cond_ok (fun h=>?_) (fun h=>?_)
 ·rw [if_pos (eq_t h)] at k;exact give_ok (by omega) h64 o k
 rw [if_neg (eq_f h)] at k
 refine cond_ok (fun h=>?_) (fun h=>?_)
 ·rw [if_pos (eq_t h)] at k;exact got_ok hN h64 o ⟨hbl.1,by have:=hbl.2;omega⟩ k
 rw [if_neg (eq_f h)] at k
 refine cond_ok (fun h=>?_) (fun h=>?_)
 ·rw [if_pos (eq_t h)] at k;exact copied_ok (by omega) h64 o k
 rw [if_neg (eq_f h)] at k
 refine cond_ok (fun h=>?_) (fun h=>?_)
 ·rw [if_pos (eq_t h)] at k;exact ended_ok (by omega) h64 o k
 rw [if_neg (eq_f h)] at k
 refine cond_ok (fun h=>?_) (fun h=>?_)
 ·rw [if_pos (eq_t h)] at k;exact k
 rw [if_neg (eq_f h)] at k
 exact roles_ok (by omega) h64 o k
end Gm
