/- What the condition on the listed variable gives, and a world that meets it. -/
import Derived.Test.YtlaijgoahmigmaaGreatDoorRows
import Derived.LaidLaws
import Derived.LaidHandle
import Derived.Stop.Joined
import Derived.RowKit
import Derived.SizedLaws
import Derived.Test.YtlaijgoahmigmaaGreatDoorGdE0
import Derived.Test.YtlaijgoahmigmaaGreatDoorGmCl
namespace Gm.Var
open Go Go.Proofs Go.Proofs.YtlaijgoahmigmaaGreatDoor Go.RowKit Go.Stop
abbrev lstT:List (String×DataW Unit):=[("math/bits.deBruijn32tab",Rows.laid_math_bits_deBruijn32tab)]
abbrev lst:List (String×DataW Unit):=[("math/bits.deBruijn32tab",Rows.laid_math_bits_deBruijn32tab),("errors.errorType",Rows.laid_errors_errorType)]
theorem et:Tryz.prog.globalNamed "math/bits.deBruijn32tab" = some 0:=by kernel_rfl
theorem ty:(Tryz.prog.globals[0]?).map (·.type)=some 254:=by kernel_rfl
theorem cells254:Tryz.prog.cellsOf 254=32:=by kernel_rfl
theorem cells5:Tryz.prog.cellsOf 5=1:=by kernel_rfl
theorem table:(Rows.laid_math_bits_deBruijn32tab:DataW Unit)=.agg (Lib.deBruijn32tab.map fun n:Nat=>.lit (.int .u8 (n:Int))):=rfl
theorem int_of_trod {H:Type} {enc:TypeId×Value->H} {P:Program} {w:World} {base:Nat} {sp:Nat->Bool} {held:Bool} {fuel:Nat} {t:TypeId} {k:IntKind} {c:Value} {y:DataW H×List MemPlace}
  (ht:P.underlying t=some (.int k)) (h:DataW.trod enc P w base sp held fuel t [c]=some y):∃ n,c=.int k n∧y=(.lit (.int k n),[]):=by
 cases fuel with
 | zero=>simp [DataW.trod] at h
 | succ fuel=>
  cases c <;> simp [DataW.trod,ht] at h
  rename_i k' n
  obtain ⟨⟨rfl,_⟩,rfl⟩:=h
  exact⟨n,rfl,rfl⟩
theorem mapM_at {α β:Type} {f:α->Option β}:∀ {l:List α} {xs:List β},l.mapM f=some xs->∀ (j:Nat) (a:α),l[j]? = some a->∃ y,xs[j]? = some y∧f a=some y
 | [],_,_,_,_,e=>by cases e
 | b :: l,xs,h,j,a,e=>by
  simp only [List.mapM_cons,Option.bind_eq_bind,Option.bind_eq_some_iff,Option.pure_def,Option.some.injEq] at h
  obtain ⟨y,hy,ys,hys,rfl⟩:=h
  cases j with
  | zero=>cases e;exact⟨y,rfl,hy⟩
  | succ j=>exact mapM_at hys j a e
theorem hasTab_of {W:World} (h':laidMet Tryz.prog lstT W):hasTab W:=by
 obtain ⟨ps,⟨g,t,cs,fuel,p,q,hg,ht,hvar,hd,_,_⟩,_⟩:=h'
 obtain rfl:=Option.some.inj (et.symm.trans hg)
 obtain rfl:=Option.some.inj (ty.symm.trans ht)
 intro j hj
 have hj:j < 32:=hj
 rw [World.var?_cell et hvar j]
 obtain ⟨l⟩:=cs
 cases fuel with
 | zero=>simp [DataW.trod] at hd
 | succ fuel=>
  simp only [DataW.trod,Tryz.underlying254,cells254,cells5] at hd
  split at hd
  ·rename_i hl
   obtain ⟨xs,hm,hx⟩:=Option.map_eq_some_iff.1 hd
   obtain ⟨y,hy,hf⟩:=mapM_at hm j j (by rw [List.getElem?_range hj])
   have hlj:j < l.length:=by omega
   have e1:(l.drop (j * 1)).take 1=[l[j]]:=by
    rw [Nat.mul_one,List.drop_eq_getElem_cons hlj]
    rfl
   rw [e1] at hf
   obtain ⟨n,hn,rfl⟩:=int_of_trod Tryz.underlying5 hf
   have hx1:=(Prod.mk.inj hx).1
   rw [table] at hx1
   have hx2:=DataW.agg.inj hx1
   have e2:(xs.map (·.1))[j]? = some (.lit (.int .u8 n)):=by rw [List.getElem?_map,hy];rfl
   rw [hx2,List.getElem?_map,List.getElem?_eq_getElem (show j < Lib.deBruijn32tab.length from hj)] at e2
   have e3:((Lib.deBruijn32tab[j]'hj:Nat):Int)=n:=by
    have:=Option.some.inj e2
    injection this with this
    injection this
   have e4:l[j]? = some (.int .u8 n):=by rw [List.getElem?_eq_getElem hlj,hn]
   have e5:Lib.deBruijn32tab.getD j 0=Lib.deBruijn32tab[j]'hj:=by
    rw [List.getD_eq_getElem?_getD,List.getElem?_eq_getElem (show j < Lib.deBruijn32tab.length from hj)];rfl
   rw [e5,e3]
   simpa using e4
  ·cases hd
theorem ev:Tryz.prog.globalNamed "errors.errorType" = some 1:=by kernel_rfl
theorem rt:(Tryz.prog.cutTypes.find? (·.1 == "internal/reflectlite.rtype")).map (·.2)=some 302:=by kernel_rfl
theorem oneRow:((List.range 342).filter fun t=>Tryz.prog.rowNamed t [101,114,114,111,114])=[233]:=by kernel_rfl
theorem size:Tryz.prog.types.size=342:=by kernel_rfl
theorem has_of_laid {W:World} (h:laidMetH Tryz.prog lst W):hasVar W∧hasTab W:=by
 have h':laidMet Tryz.prog lstT W∧handlesMet Tryz.prog [("errors.errorType",Rows.laid_errors_errorType)] W:=h
 refine⟨?_,hasTab_of h'.1⟩
 obtain ⟨name,u,ty,e1,e2,e3,e4,e5⟩:=h'.2 _ (List.mem_singleton.2 rfl)
 have en:name=[101,114,114,111,114]:=(Option.some.inj e1).symm
 subst en
 obtain rfl:=Option.some.inj (rt.symm.trans e2)
 have hm:ty∈(List.range 342).filter fun t=>Tryz.prog.rowNamed t [101,114,114,111,114]:=List.mem_filter.2 ⟨List.mem_range.2 (by rw [← size];exact e3),e4⟩
 rw [oneRow] at hm
 obtain rfl:=List.mem_singleton.1 hm
 have hh:typeHandle Tryz.prog 233=.pointer (some ⟨2,233,none⟩):=by kernel_rfl
 rw [hh] at e5
 have h:=World.var?_cell ev e5 0
 show W.cell? ⟨1,0,none⟩=_
 simpa using h
noncomputable def laidWorld (os:Os):World:=
 let w0:=World.holding Tryz.prog os ⟨#[],#[],[]⟩
 { w0 with heap:=(w0.heap.modify 0 fun
    | .cells _ t frozen=>.cells (Lib.deBruijn32tab.map fun n:Nat=>Value.int .u8 (n:Int)).toArray t frozen
    | o=>o).modify 1 fun
    | .cells _ t frozen=>.cells #[.iface 302 (.agg #[.pointer (some ⟨2,233,none⟩)])] t frozen
    | o=>o }
theorem laidWorld_met (os:Os) (args:Array Value):laidMetH Tryz.prog lst ((laidWorld os).forCall (fun _ _=>0) ⟨#[],args,[]⟩).memory:=
 laidMetH_of_parts (laidMet_of_run (l:=lstT) (ps:=(List.range 32).map fun j=>.cell 0 j) 8 (by kernel_rfl) (by kernel_rfl) (by kernel_rfl)) (by kernel_rfl)
end Gm.Var

namespace Gm
open Go
def be (n:Nat):Nat->Str
 | 0=>[]
 | k+1=>be (n / 256) k++[UInt8.ofNat n]
def unbe (s:Str):Nat:=s.foldl (fun n b=>n * 256+b.toNat) 0
theorem be_length (k:Nat):∀ n,(be n k).length=k:=by
 induction k with
 | zero=>intro n;rfl
 | succ k ih=>intro n;simp [be,ih]
theorem be_cons (k:Nat):∀ n,be n (k+1)=UInt8.ofNat (n / 256 ^ k) :: be n k:=by
 induction k with
 | zero=>intro n;simp [be]
 | succ k ih=>
  intro n
  rw [be,ih (n / 256)]
  rw [Nat.div_div_eq_div_mul,Nat.pow_succ,Nat.mul_comm (256 ^ k)]
  rfl
theorem unbe_snoc (s:Str) (b:UInt8):unbe (s++[b])=unbe s * 256+b.toNat:=by simp [unbe]
theorem toNat_ofNat (n:Nat):(UInt8.ofNat n).toNat=n % 256:=by simp
theorem unbe_be (k:Nat):∀ n,unbe (be n k)=n % 256 ^ k:=by
 induction k with
 | zero=>intro n;simp [be,unbe,Nat.mod_one]
 | succ k ih=>
  intro n
  rw [be,unbe_snoc,ih,toNat_ofNat,Nat.pow_succ,Nat.mul_comm (256 ^ k),Nat.mod_mul]
  omega
theorem snoc_cases (s:Str):s=[]∨∃ t b,s=t++[b]:=by
 rcases List.eq_nil_or_concat s with h | ⟨t,b,h⟩
 ·exact .inl h
 ·exact .inr ⟨t,b,by simpa using h⟩
theorem unbe_lt:∀ (k:Nat) (s:Str),s.length=k->unbe s < 256 ^ k
 | 0,s,h=>by
  cases List.length_eq_zero_iff.1 h
  simp [unbe]
 | k+1,s,h=>by
  rcases snoc_cases s with rfl | ⟨t,b,rfl⟩
  ·simp at h
  ·have:=unbe_lt k t (by simpa using h)
   have hb:=b.toNat_lt
   rw [unbe_snoc,Nat.pow_succ]
   omega
theorem be_unbe:∀ (k:Nat) (s:Str),s.length=k->be (unbe s) k=s
 | 0,s,h=>by cases List.length_eq_zero_iff.1 h;rfl
 | k+1,s,h=>by
  rcases snoc_cases s with rfl | ⟨t,b,rfl⟩
  ·simp at h
  ·have hb:=b.toNat_lt
   rw [be,unbe_snoc]
   rw [show (unbe t * 256+b.toNat) / 256=unbe t by omega,be_unbe k t (by simpa using h)]
   congr 1
   have:UInt8.ofNat (unbe t * 256+b.toNat)=b:=by
    apply UInt8.toNat_inj.1
    rw [toNat_ofNat]
    omega
   rw [this]
theorem wrap_u64 (x:Int):IntKind.u64.wrap x=x % 18446744073709551616:=rfl
theorem wrap_u32 (x:Int):IntKind.u32.wrap x=x % 4294967296:=rfl
theorem wrap_u8 (x:Int):IntKind.u8.wrap x=x % 256:=rfl
theorem wrap_i64 {x:Int} (h:-9223372036854775808≤x∧x≤9223372036854775807):IntKind.i64.wrap x=x:=by
 simp [IntKind.wrap,IntKind.bits,IntKind.signed]
 split <;> omega
theorem ofInt_nat (w n:Nat):BitVec.ofInt w (n:Int)=BitVec.ofNat w n:=by
 apply BitVec.eq_of_toNat_eq
 simp
theorem wrap_nat {k:IntKind} (hk:k.signed=false) (n:Nat):k.wrap (n:Int)=((n % 2 ^ k.bits:Nat):Int):=by
 unfold IntKind.wrap
 simp [hk]
theorem ixor_nat {k:IntKind} (hk:k.signed=false) {x y:Nat} (hx:x < 2 ^ k.bits) (hy:y < 2 ^ k.bits):ixor k x y=((x ^^^ y:Nat):Int):=by
 unfold ixor
 rw [ofInt_nat,ofInt_nat,wrap_nat hk,BitVec.toNat_xor,BitVec.toNat_ofNat,BitVec.toNat_ofNat,Nat.mod_eq_of_lt hx,Nat.mod_eq_of_lt hy,Nat.mod_eq_of_lt (Nat.xor_lt_two_pow hx hy)]
theorem ior_nat {k:IntKind} (hk:k.signed=false) {x y:Nat} (hx:x < 2 ^ k.bits) (hy:y < 2 ^ k.bits):ior k x y=((x ||| y:Nat):Int):=by
 unfold ior
 rw [ofInt_nat,ofInt_nat,wrap_nat hk,BitVec.toNat_or,BitVec.toNat_ofNat,BitVec.toNat_ofNat,Nat.mod_eq_of_lt hx,Nat.mod_eq_of_lt hy,Nat.mod_eq_of_lt (Nat.or_lt_two_pow hx hy)]
theorem iand_nat {k:IntKind} (hk:k.signed=false) {x y:Nat} (hx:x < 2 ^ k.bits) (hy:y < 2 ^ k.bits):iand k x y=((x &&& y:Nat):Int):=by
 unfold iand
 rw [ofInt_nat,ofInt_nat,wrap_nat hk,BitVec.toNat_and,BitVec.toNat_ofNat,BitVec.toNat_ofNat,Nat.mod_eq_of_lt hx,Nat.mod_eq_of_lt hy,Nat.mod_eq_of_lt (Nat.lt_of_le_of_lt Nat.and_le_left hx)]
theorem ishr_nat {k:IntKind} (x:Nat) {y:Nat} (hy:y≤k.bits):ishr k x y=((x / 2 ^ y:Nat):Int):=by
 unfold ishr
 have e:min (y:Int).toNat k.bits=y:=by simp;omega
 rw [e,show((2:Int) ^ y)=((2 ^ y:Nat):Int) by simp,show((x:Int).fdiv ((2 ^ y:Nat):Int))=((x / 2 ^ y:Nat):Int) by rw [Int.fdiv_eq_ediv_of_nonneg _ (Int.natCast_nonneg _)];norm_cast]
theorem ishl_nat {k:IntKind} (hk:k.signed=false) (x:Nat) {y:Nat} (hy:y≤k.bits):ishl k x y=((x * 2 ^ y % 2 ^ k.bits:Nat):Int):=by
 unfold ishl
 have e:min (y:Int).toNat k.bits=y:=by simp;omega
 rw [e,show((x:Int) * (2:Int) ^ y)=((x * 2 ^ y:Nat):Int) by simp,wrap_nat hk]
theorem gd_ok {c:Bool} {p:Prop} (h:c=true) (hp:p):bif c then p else False:=by rw [h];exact hp
theorem cond_ok {c:Bool} {p q:Prop} (ht:c=true->p) (hf:c=false->q):bif c then p else q:=by
 cases c
 ·exact hf rfl
 ·exact ht rfl
theorem cond_t {c:Bool} {p q:Prop} (h:c=true) (hp:p):bif c then p else q:=by rw [h];exact hp
theorem cond_f {c:Bool} {p q:Prop} (h:c=false) (hq:q):bif c then p else q:=by rw [h];exact hq
theorem oget_ok {α:Type} {x:Option α} {K:α->Prop} {v:α} (h:x=some v) (hk:K v):oget x K:=by rw [h];exact hk
theorem loop_ok {α β:Type} {B:(α->Prop)->(α->Prop)->(β->Prop)->α->Prop} {kx:α->Prop} {kr:β->Prop} (I:α->Prop) (m:α->Nat)
  (h:∀ x,I x->∀ rec:α->Prop,(∀ y,I y->m y < m x->rec y)->B rec kx kr x) {x0:α} (h0:I x0):∃ n,loopB B n kx kr x0:=by
 have key:∀ n x,I x->m x < n->loopB B n kx kr x:=by
  intro n
  induction n with
  | zero=>intro x _ h;omega
  | succ n ih=>intro x hx hm;exact h x hx _ (fun y hy hlt=>ih y hy (by omega))
 exact⟨m x0+1,key _ x0 h0 (by omega)⟩
end Gm

namespace Go.Proofs
open Go.Shelf
def laysTz_ren:Ren:=⟨fun | 28=>159 | n=>n,fun | 0=>0 | 3=>3 | 4=>4 | 5=>5 | 25=>255 | 27=>37 | 53=>254 | n=>n,fun _=>0⟩
theorem laysTz:Lays7.n28 Tryz.prog laysTz_ren:={
 mixed:=by kernel_rfl
 f28:=Tryz.func159.trans (congrArg some (by kernel_rfl))
 t0:=Tryz.underlying0
 a0:=Tryz.isAgg0
 z0:=Tryz.sizeOf0
 v0:=Tryz.zeroValue0
 i0:=by kernel_rfl
 t3:=Tryz.underlying3
 a3:=Tryz.isAgg3
 z3:=Tryz.sizeOf3
 v3:=Tryz.zeroValue3
 i3:=by kernel_rfl
 t4:=Tryz.underlying4
 a4:=Tryz.isAgg4
 z4:=Tryz.sizeOf4
 v4:=Tryz.zeroValue4
 i4:=by kernel_rfl
 t5:=Tryz.underlying5
 a5:=Tryz.isAgg5
 z5:=Tryz.sizeOf5
 v5:=Tryz.zeroValue5
 i5:=by kernel_rfl
 t25:=Tryz.underlying255
 a25:=Tryz.isAgg255
 z25:=Tryz.sizeOf255
 v25:=Tryz.zeroValue255
 i25:=by kernel_rfl
 t27:=Tryz.underlying37
 a27:=Tryz.isAgg37
 z27:=Tryz.sizeOf37
 v27:=Tryz.zeroValue37
 i27:=by kernel_rfl
 t53:=Tryz.underlying254
 a53:=Tryz.isAgg254
 z53:=Tryz.sizeOf254
 v53:=Tryz.zeroValue254
 i53:=by kernel_rfl
 g0:=by kernel_rfl }
end Go.Proofs
namespace Gm
open Go Go.Proofs
namespace math_bits_TrailingZeros32
abbrev A:List Ty:=[.int .u32]
abbrev C:=cTy (.int .i64)
abbrev T:Type:=Int->(Int->Prop)->Prop
def F (x:Int) (K:Int->Prop):Prop:=bif decide (0≤x)&&decide (x < 4294967296)then K (Lib.ctz 32 x.toNat:Nat)else False
noncomputable def en:Entry:=mkEntry A C fun x=>F x.1
theorem det (x:Int):Det (F x):=by
 unfold F
 exact det_cond _ (det_ret _) det_false
theorem edet (a:List AV):Det (en a):=mkD (fun x:Dens A=>det x.1) a
theorem has:((E.P.funcs[159]?).bind (·.body)).isSome=true:=by kernel_rfl
theorem nf:laysTz_ren.f 28=159:=rfl
theorem lt32 {z:Int} (h1:0≤z) (h2:z < 4294967296):z.toNat < 4294967296:=by omega
theorem sound:EntrySound E 159 en:=by
 refine⟨callable_of num has,?_⟩
 intro args K hK S vs hF hv hc
 have hK:mkEntry A C (fun x=>F x.1) args K:=hK
 unfold mkEntry at hK
 split at hK
 ·rename_i x hx
  obtain ⟨e1,e2⟩:=decA_ok hx
  have hc':Cs S (encA A x) vs:=by
   refine⟨e1.trans hc.1,?_⟩
   intro k b v hb hv
   have hk:k < vs.size:=(Array.getElem?_eq_some_iff.1 hv).1
   have ha:args[k]? = some (args[k]'(by have:=hc.1;omega)):=List.getElem?_eq_getElem _
   obtain ⟨b',hb',_,hw⟩:=e2 k _ ha
   have:some b=some b':=hb.symm.trans hb'
   cases this
   exact hw S v (hc.2 k _ v ha hv)
  obtain ⟨hlen,hr⟩:=hc'
  obtain ⟨v0,rfl⟩:∃ v0,vs = #[v0]:=by
   obtain ⟨l⟩:=vs
   match l,hlen with
   | [a],_=>exact⟨a,rfl⟩
  have r0:Rv S (.int .u32 x.1) v0:=hr 0 _ v0 rfl rfl
  cases r0
  unfold F at hK
  obtain ⟨g,hk⟩:(decide (0≤x.1)&&decide (x.1 < 4294967296))=true∧(C.enc ((Lib.ctz 32 x.1.toNat:Nat):Int) K):=by
   cases hb:(decide (0≤x.1)&&decide (x.1 < 4294967296)) with
   | false=>rw [hb] at hK;exact hK.elim
   | true=>rw [hb] at hK;exact⟨rfl,hK⟩
  simp only [Bool.and_eq_true,decide_eq_true_eq] at g
  have g1:(0:Int)≤x.1:=g.1
  have g2:(x.1:Int) < 4294967296:=g.2
  have key:=Any7.bits_TrailingZeros32 laysTz x.1.toNat (lt32 g1 g2) S.w (fun _=>hv.2)
  rw [nf,show((x.1.toNat:Nat):Int)=x.1 from Int.toNat_of_nonneg g1] at key
  refine key.mono ?_
  rintro e w' ⟨rfl,rfl⟩
  exact⟨_,.int .i64 (Lib.ctz 32 x.1.toNat:Nat),S,rfl,rfl,Ext.refl S,.int _ _,hk⟩
 ·exact hK.elim
end math_bits_TrailingZeros32
end Gm
