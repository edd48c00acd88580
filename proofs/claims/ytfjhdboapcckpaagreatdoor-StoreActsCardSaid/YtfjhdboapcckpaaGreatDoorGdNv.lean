/- What the condition on the listed variable gives, and a world that meets it. -/
import Derived.Test.YtfjhdboapcckpaaGreatDoorRows
import Derived.LaidLaws
import Derived.LaidHandle
import Derived.Stop.Joined
import Derived.RowKit
import Derived.SizedLaws
import Derived.Test.YtfjhdboapcckpaaGreatDoorGdE0
import Derived.Test.YtfjhdboapcckpaaGreatDoorGmCl
import Derived.WalkKit
import Derived.LaidEql
import Derived.Stop.Asserts
import Derived.RowKitTokens
import Derived.Lib.IfaceEq
import Derived.RegionTactic
namespace Gm.Var
open Go Go.Proofs Go.Proofs.YtfjhdboapcckpaaGreatDoor Go.RowKit Go.Stop
abbrev lst : List (String × DataW Unit) := [("errors.errorType", Rows.laid_errors_errorType)]
theorem et : Tryz.prog.globalNamed "errors.errorType" = some 0 := by kernel_rfl
theorem rt : (Tryz.prog.cutTypes.find? (·.1 == "internal/reflectlite.rtype")).map (·.2) = some 265 := by kernel_rfl
theorem oneRow : ((List.range 332).filter fun t => Tryz.prog.rowNamed t [101, 114, 114, 111, 114]) = [194] := by kernel_rfl
theorem size : Tryz.prog.types.size = 332 := by kernel_rfl
theorem has_of_laid {W : World} (h : laidMetH Tryz.prog lst W) : hasVar W := by
  have h' : laidMet Tryz.prog [] W ∧ handlesMet Tryz.prog lst W := h
  obtain ⟨name, u, ty, e1, e2, e3, e4, e5⟩ := h'.2 _ (List.mem_singleton.2 rfl)
  have en : name = [101, 114, 114, 111, 114] := (Option.some.inj e1).symm
  subst en
  obtain rfl := Option.some.inj (rt.symm.trans e2)
  have hm : ty ∈ (List.range 332).filter fun t => Tryz.prog.rowNamed t [101, 114, 114, 111, 114] := List.mem_filter.2 ⟨List.mem_range.2 (by rw [← size]; exact e3), e4⟩
  rw [oneRow] at hm
  obtain rfl := List.mem_singleton.1 hm
  have hh : typeHandle Tryz.prog 194 = .pointer (some ⟨1, 194, none⟩) := by kernel_rfl
  rw [hh] at e5
  have h := World.var?_cell et e5 0
  show W.cell? ⟨0, 0, none⟩ = _
  simpa using h
noncomputable def laidWorld (os : Os) : World :=
  let w0 := World.holding Tryz.prog os ⟨#[], #[], []⟩
  { w0 with heap := w0.heap.modify 0 fun
      | .cells _ t frozen => .cells #[.iface 265 (.agg #[.pointer (some ⟨1, 194, none⟩)])] t frozen
      | o => o }
theorem laidWorld_met (os : Os) (args : Array Value) : laidMetH Tryz.prog lst ((laidWorld os).forCall (fun _ _ => 0) ⟨#[], args, []⟩).memory :=
  laidMetH_of_parts (laidMet_nil _ _) (by kernel_rfl)
end Gm.Var

namespace Gm
open Go
def be (n : Nat) : Nat → Str
  | 0 => []
  | k + 1 => be (n / 256) k ++ [UInt8.ofNat n]
def unbe (s : Str) : Nat := s.foldl (fun n b => n * 256 + b.toNat) 0
theorem be_length (k : Nat) : ∀ n, (be n k).length = k := by
  induction k with
  | zero => intro n; rfl
  | succ k ih => intro n; simp [be, ih]
theorem be_cons (k : Nat) : ∀ n, be n (k + 1) = UInt8.ofNat (n / 256 ^ k) :: be n k := by
  induction k with
  | zero => intro n; simp [be]
  | succ k ih =>
    intro n
    rw [be, ih (n / 256)]
    rw [Nat.div_div_eq_div_mul, Nat.pow_succ, Nat.mul_comm (256 ^ k)]
    rfl
theorem unbe_snoc (s : Str) (b : UInt8) : unbe (s ++ [b]) = unbe s * 256 + b.toNat := by simp [unbe]
theorem toNat_ofNat (n : Nat) : (UInt8.ofNat n).toNat = n % 256 := by simp
theorem unbe_be (k : Nat) : ∀ n, unbe (be n k) = n % 256 ^ k := by
  induction k with
  | zero => intro n; simp [be, unbe, Nat.mod_one]
  | succ k ih =>
    intro n
    rw [be, unbe_snoc, ih, toNat_ofNat, Nat.pow_succ, Nat.mul_comm (256 ^ k), Nat.mod_mul]
    omega
theorem snoc_cases (s : Str) : s = [] ∨ ∃ t b, s = t ++ [b] := by
  rcases List.eq_nil_or_concat s with h | ⟨t, b, h⟩
  · exact .inl h
  · exact .inr ⟨t, b, by simpa using h⟩
theorem unbe_lt : ∀ (k : Nat) (s : Str), s.length = k → unbe s < 256 ^ k
  | 0, s, h => by
    cases List.length_eq_zero_iff.1 h
    simp [unbe]
  | k + 1, s, h => by
    rcases snoc_cases s with rfl | ⟨t, b, rfl⟩
    · simp at h
    · have := unbe_lt k t (by simpa using h)
      have hb := b.toNat_lt
      rw [unbe_snoc, Nat.pow_succ]
      omega
theorem be_unbe : ∀ (k : Nat) (s : Str), s.length = k → be (unbe s) k = s
  | 0, s, h => by cases List.length_eq_zero_iff.1 h; rfl
  | k + 1, s, h => by
    rcases snoc_cases s with rfl | ⟨t, b, rfl⟩
    · simp at h
    · have hb := b.toNat_lt
      rw [be, unbe_snoc]
      rw [show (unbe t * 256 + b.toNat) / 256 = unbe t by omega, be_unbe k t (by simpa using h)]
      congr 1
      have : UInt8.ofNat (unbe t * 256 + b.toNat) = b := by
        apply UInt8.toNat_inj.1
        rw [toNat_ofNat]
        omega
      rw [this]
theorem wrap_u64 (x : Int) : IntKind.u64.wrap x = x % 18446744073709551616 := rfl
theorem wrap_u32 (x : Int) : IntKind.u32.wrap x = x % 4294967296 := rfl
theorem wrap_u8 (x : Int) : IntKind.u8.wrap x = x % 256 := rfl
theorem wrap_i64 {x : Int} (h : -9223372036854775808 ≤ x ∧ x ≤ 9223372036854775807) : IntKind.i64.wrap x = x := by
  simp [IntKind.wrap, IntKind.bits, IntKind.signed]
  split <;> omega
theorem ofInt_nat (w n : Nat) : BitVec.ofInt w (n : Int) = BitVec.ofNat w n := by
  apply BitVec.eq_of_toNat_eq
  simp
theorem wrap_nat {k : IntKind} (hk : k.signed = false) (n : Nat) : k.wrap (n : Int) = ((n % 2 ^ k.bits : Nat) : Int) := by
  unfold IntKind.wrap
  simp [hk]
theorem ixor_nat {k : IntKind} (hk : k.signed = false) {x y : Nat} (hx : x < 2 ^ k.bits) (hy : y < 2 ^ k.bits) : ixor k x y = ((x ^^^ y : Nat) : Int) := by
  unfold ixor
  rw [ofInt_nat, ofInt_nat, wrap_nat hk, BitVec.toNat_xor, BitVec.toNat_ofNat, BitVec.toNat_ofNat, Nat.mod_eq_of_lt hx, Nat.mod_eq_of_lt hy, Nat.mod_eq_of_lt (Nat.xor_lt_two_pow hx hy)]
theorem ior_nat {k : IntKind} (hk : k.signed = false) {x y : Nat} (hx : x < 2 ^ k.bits) (hy : y < 2 ^ k.bits) : ior k x y = ((x ||| y : Nat) : Int) := by
  unfold ior
  rw [ofInt_nat, ofInt_nat, wrap_nat hk, BitVec.toNat_or, BitVec.toNat_ofNat, BitVec.toNat_ofNat, Nat.mod_eq_of_lt hx, Nat.mod_eq_of_lt hy, Nat.mod_eq_of_lt (Nat.or_lt_two_pow hx hy)]
theorem iand_nat {k : IntKind} (hk : k.signed = false) {x y : Nat} (hx : x < 2 ^ k.bits) (hy : y < 2 ^ k.bits) : iand k x y = ((x &&& y : Nat) : Int) := by
  unfold iand
  rw [ofInt_nat, ofInt_nat, wrap_nat hk, BitVec.toNat_and, BitVec.toNat_ofNat, BitVec.toNat_ofNat, Nat.mod_eq_of_lt hx, Nat.mod_eq_of_lt hy, Nat.mod_eq_of_lt (Nat.lt_of_le_of_lt Nat.and_le_left hx)]
theorem ishr_nat {k : IntKind} (x : Nat) {y : Nat} (hy : y ≤ k.bits) : ishr k x y = ((x / 2 ^ y : Nat) : Int) := by
  unfold ishr
  have e : min (y : Int).toNat k.bits = y := by simp; omega
  rw [e, show ((2 : Int) ^ y) = ((2 ^ y : Nat) : Int) by simp, show ((x : Int).fdiv ((2 ^ y : Nat) : Int)) = ((x / 2 ^ y : Nat) : Int) by rw [Int.fdiv_eq_ediv_of_nonneg _ (Int.natCast_nonneg _)]; norm_cast]
theorem ishl_nat {k : IntKind} (hk : k.signed = false) (x : Nat) {y : Nat} (hy : y ≤ k.bits) : ishl k x y = ((x * 2 ^ y % 2 ^ k.bits : Nat) : Int) := by
  unfold ishl
  have e : min (y : Int).toNat k.bits = y := by simp; omega
  rw [e, show ((x : Int) * (2 : Int) ^ y) = ((x * 2 ^ y : Nat) : Int) by simp, wrap_nat hk]
theorem gd_ok {c : Bool} {p : Prop} (h : c = true) (hp : p) : bif c then p else False := by rw [h]; exact hp
theorem cond_ok {c : Bool} {p q : Prop} (ht : c = true → p) (hf : c = false → q) : bif c then p else q := by
  cases c
  · exact hf rfl
  · exact ht rfl
theorem cond_t {c : Bool} {p q : Prop} (h : c = true) (hp : p) : bif c then p else q := by rw [h]; exact hp
theorem cond_f {c : Bool} {p q : Prop} (h : c = false) (hq : q) : bif c then p else q := by rw [h]; exact hq
theorem oget_ok {α : Type} {x : Option α} {K : α → Prop} {v : α} (h : x = some v) (hk : K v) : oget x K := by rw [h]; exact hk
theorem loop_ok {α β : Type} {B : (α → Prop) → (α → Prop) → (β → Prop) → α → Prop} {kx : α → Prop} {kr : β → Prop} (I : α → Prop) (m : α → Nat)
    (h : ∀ x, I x → ∀ rec : α → Prop, (∀ y, I y → m y < m x → rec y) → B rec kx kr x) {x0 : α} (h0 : I x0) : ∃ n, loopB B n kx kr x0 := by
  have key : ∀ n x, I x → m x < n → loopB B n kx kr x := by
    intro n
    induction n with
    | zero => intro x _ h; omega
    | succ n ih => intro x hx hm; exact h x hx _ (fun y hy hlt => ih y hy (by omega))
  exact ⟨m x0 + 1, key _ x0 h0 (by omega)⟩
end Gm

set_option maxRecDepth 100000
namespace Gm.As
open Go Go.Proofs Go.RowKit Go.Extern.Stop Go.Stop Go.Extern
theorem rlm (z : Sem Value) (f : TypeId → Addr → Nat → Nat → Sem Value) (v : Value) :
    ReflectliteValue.method z f #[v] = (do match ← ReflectliteValue.parts v with | none => z | some (t, a, fl) => f t a fl (fl % 32)) := rfl
theorem rls (v x : Value) : ReflectliteValue.set #[v, x] = (do
    let (some (dst, a, fl), some (src, b, _)) := (← ReflectliteValue.parts v, ← ReflectliteValue.parts x)
      | unsupported (.noEntry "extern/(internal/reflectlite.Value).Set.zeroValue")
    if fl / ReflectliteValue.flagAddr % 2 == 0 then unsupported (.noEntry "extern/(internal/reflectlite.Value).Set.unaddressable")
    let val ← loadVar src b
    if ← Rtype.directlyAssignable dst src then storeVar dst a val
    else if ← Rtype.implements dst src then
      if (← Rtype.kind src) == 20 then
        match val with
        | .nilIface => unsupported (.noEntry "extern/reflectlite: a nil value of one interface type handed on as a value of another")
        | _ => storeVar dst a val
      else storeVar dst a (.iface src val)
    else panicString ("reflectlite.Set: value of type " ++ (← Rtype.spelt src) ++ " is not assignable to type " ++ (← Rtype.spelt dst))
    pure (.tuple #[])) := rfl
theorem methodKind (h : Value) (w : World) : (Go.method 432 265 (.agg #[h]) "Kind").run Tryz.prog w = .ok (260, h) w := by kernel_rfl
theorem methodElem (h : Value) (w : World) : (Go.method 432 265 (.agg #[h]) "Elem").run Tryz.prog w = .ok (272, .agg #[h]) w := by kernel_rfl
theorem methodImplements (h : Value) (w : World) : (Go.method 432 265 (.agg #[h]) "Implements").run Tryz.prog w = .ok (273, .agg #[h]) w := by kernel_rfl
theorem methodAssignableTo (h : Value) (w : World) : (Go.method 432 265 (.agg #[h]) "AssignableTo").run Tryz.prog w = .ok (270, .agg #[h]) w := by kernel_rfl
theorem valueOfPE (t : Addr) (w : World) : (ReflectliteValue.unpack (.iface 203 (.pointer (some t)))).run Tryz.prog w
    = .ok (.agg #[.pointer (some ⟨1, 203, none⟩), .pointer (some ⟨w.heap.size, 0, none⟩), .int .u64 150]) (w.alloc (.cells #[.pointer (some t)] 203)) := by kernel_rfl
theorem typePE (a : Addr) (w : World) : (ReflectliteValue.methodAny (ReflectliteValue.valueError "reflectlite.Value.Type" 0) (fun t _ _ _ => ReflectliteType.toType t) #[.agg #[.pointer (some ⟨1, 203, none⟩), .pointer (some a), .int .u64 150]]).run Tryz.prog w
    = .ok (.iface 265 (.agg #[.pointer (some ⟨1, 203, none⟩)])) w := by kernel_rfl
theorem kindPE (w : World) : ((ReflectliteType.abiMethod fun t => (fun a : Nat => Value.int IntKind.u8 (a : Int)) <$> Rtype.kind t) #[.pointer (some ⟨1, 203, none⟩)]).run Tryz.prog w = .ok (.int .u8 22) w := by kernel_rfl
theorem kindE (w : World) : ((ReflectliteType.abiMethod fun t => (fun a : Nat => Value.int IntKind.u8 (a : Int)) <$> Rtype.kind t) #[.pointer (some ⟨1, 57, none⟩)]).run Tryz.prog w = .ok (.int .u8 2) w := by kernel_rfl
theorem partsPE (a : Addr) (w : World) : (ReflectliteValue.parts (.agg #[.pointer (some ⟨1, 203, none⟩), .pointer (some a), .int .u64 150])).run Tryz.prog w = .ok (some (203, a, 150)) w := by kernel_rfl
theorem isNilPE (a p : Addr) (W : World) (ha : W.cell? a = some (.pointer (some p))) :
    (ReflectliteValue.method (ReflectliteValue.valueError "reflectlite.Value.IsNil" 0) ReflectliteValue.isNil #[.agg #[.pointer (some ⟨1, 203, none⟩), .pointer (some a), .int .u64 150]]).run Tryz.prog W = .ok (.bool false) W := by
  rw [rlm]
  simp only [Sem.run_bind, partsPE, Result.andThen]
  simp [ReflectliteValue.isNil, loadVar, isAgg, underlying, Tryz.underlying203, ha, Result.andThen]
theorem elemPE (w : World) : (ReflectliteType.method ReflectliteType.elem #[.agg #[.pointer (some ⟨1, 203, none⟩)]]).run Tryz.prog w = .ok (.iface 265 (.agg #[.pointer (some ⟨1, 57, none⟩)])) w := by kernel_rfl
theorem implementsE (w : World) : (ReflectliteType.relation "Implements" ReflectliteType.implements_ #[.agg #[.pointer (some ⟨1, 57, none⟩)], .iface 265 (.agg #[.pointer (some ⟨1, 194, none⟩)])]).run Tryz.prog w = .ok (.bool true) w := by kernel_rfl
theorem typeOfE (v : Value) (w : World) : (ReflectliteType.typeOf #[.iface 57 v]).run Tryz.prog w = .ok (.iface 265 (.agg #[.pointer (some ⟨1, 57, none⟩)])) w := by kernel_rfl
theorem assignableE (w : World) : (ReflectliteType.relation "AssignableTo" ReflectliteType.assignableTo #[.agg #[.pointer (some ⟨1, 57, none⟩)], .iface 265 (.agg #[.pointer (some ⟨1, 57, none⟩)])]).run Tryz.prog w = .ok (.bool true) w := by kernel_rfl
theorem valueOfE (n : Int) (w : World) : (ReflectliteValue.unpack (.iface 57 (.int .i64 n))).run Tryz.prog w
    = .ok (.agg #[.pointer (some ⟨1, 57, none⟩), .pointer (some ⟨w.heap.size, 0, none⟩), .int .u64 130]) (w.alloc (.cells #[.int .i64 n] 57)) := by kernel_rfl
theorem elemOfPE (w : World) : (Rtype.elem? 203).run Tryz.prog w = .ok (some 57) w := by kernel_rfl
theorem mkE (p : Addr) (w : World) : (ReflectliteValue.mk 57 p ReflectliteValue.flagAddr).run Tryz.prog w = .ok (.agg #[.pointer (some ⟨1, 57, none⟩), .pointer (some p), .int .u64 386]) w := by kernel_rfl
theorem elemVPE (a p : Addr) (W : World) (ha : W.cell? a = some (.pointer (some p))) :
    (ReflectliteValue.method (ReflectliteValue.valueError "reflectlite.Value.Elem" 0) ReflectliteValue.elem #[.agg #[.pointer (some ⟨1, 203, none⟩), .pointer (some a), .int .u64 150]]).run Tryz.prog W
      = .ok (.agg #[.pointer (some ⟨1, 57, none⟩), .pointer (some p), .int .u64 386]) W := by
  rw [rlm]
  simp only [Sem.run_bind, partsPE, Result.andThen]
  simp [ReflectliteValue.elem, loadVar, isAgg, underlying, Tryz.underlying203, ha, Result.andThen, elemOfPE, mkE]
theorem partsEa (a : Addr) (w : World) : (ReflectliteValue.parts (.agg #[.pointer (some ⟨1, 57, none⟩), .pointer (some a), .int .u64 386])).run Tryz.prog w = .ok (some (57, a, 386)) w := by kernel_rfl
theorem partsE (a : Addr) (w : World) : (ReflectliteValue.parts (.agg #[.pointer (some ⟨1, 57, none⟩), .pointer (some a), .int .u64 130])).run Tryz.prog w = .ok (some (57, a, 130)) w := by kernel_rfl
theorem directE (w : World) : (Rtype.directlyAssignable 57 57).run Tryz.prog w = .ok true w := by kernel_rfl
theorem setE (ta b : Addr) (n : Int) (old : Value) (W : World) (hb : W.cell? b = some (.int .i64 n)) (ht : W.cell? ta = some old) (hf : W.frozen? ta = false) :
    (ReflectliteValue.set #[.agg #[.pointer (some ⟨1, 57, none⟩), .pointer (some ta), .int .u64 386], .agg #[.pointer (some ⟨1, 57, none⟩), .pointer (some b), .int .u64 130]]).run Tryz.prog W
      = .ok (.tuple #[]) (W.setCell ta (.int .i64 n)) := by
  rw [rls]
  simp only [Sem.run_bind, partsEa, partsE, Result.andThen]
  simp [ReflectliteValue.flagAddr, loadVar, isAgg, underlying, Tryz.underlying57, hb, Result.andThen, directE, storeVar, Value.cells, storeCells, Addr.add]
  rw [run_store Tryz.prog W ta _ _ (by rfl)]
  simp [ht, hf]
theorem as_hitE (n : Int) (t : Addr) (old : Value) (w : World) (hg : w.cell? ⟨0, 0, none⟩ = some (.iface 265 (.agg #[.pointer (some ⟨1, 194, none⟩)]))) (ht0 : w.cell? t = some old) (hf0 : w.frozen? t = false) :
    Calls Tryz.prog 158 #[.iface 57 (.int .i64 n), .iface 203 (.pointer (some t))] w fun ev w' => ev = .returned (.bool true) ∧ w' = (((((w.alloc (.cells #[.pointer (some t)] 203)).alloc (.cells #[.pointer (some ⟨1, 203, none⟩), .pointer (some ⟨w.heap.size, 0, none⟩), .int .u64 150] 240)).alloc (.cells #[.pointer (some ⟨1, 203, none⟩), .pointer (some ⟨w.heap.size, 0, none⟩), .int .u64 150] 240)).alloc (.cells #[.int .i64 n] 57)).setCell t (.int .i64 n)) := by
  have h60 := @run_callFunc_extern Tryz.prog 194 _ (fun args => ReflectliteValue.unpack (args.getD 0 (.tuple #[]))) Tryz.func194 (by kernel_rfl) (by kernel_rfl) (by kernel_rfl) (by kernel_rfl)
  have h61 := @run_callFunc_extern Tryz.prog 195 _ (ReflectliteValue.methodAny (ReflectliteValue.valueError "reflectlite.Value.Type" 0) (fun t _ _ _ => ReflectliteType.toType t)) Tryz.func195 (by kernel_rfl) (by kernel_rfl) (by kernel_rfl) (by kernel_rfl)
  have h62 := @run_callFunc_extern Tryz.prog 196 _ (ReflectliteValue.method (ReflectliteValue.valueError "reflectlite.Value.IsNil" 0) ReflectliteValue.isNil) Tryz.func196 (by kernel_rfl) (by kernel_rfl) (by kernel_rfl) (by kernel_rfl)
  have h83 := @run_callFunc_extern Tryz.prog 260 _ (ReflectliteType.abiMethod fun t => do pure (.int .u8 (← Rtype.kind t))) Tryz.func260 (by kernel_rfl) (by kernel_rfl) (by kernel_rfl) (by kernel_rfl)
  have h95 := @run_callFunc_extern Tryz.prog 272 _ (ReflectliteType.method ReflectliteType.elem) Tryz.func272 (by kernel_rfl) (by kernel_rfl) (by kernel_rfl) (by kernel_rfl)
  have h96 := @run_callFunc_extern Tryz.prog 273 _ (ReflectliteType.relation "Implements" ReflectliteType.implements_) Tryz.func273 (by kernel_rfl) (by kernel_rfl) (by kernel_rfl) (by kernel_rfl)
  have h66 := @run_callFunc_extern Tryz.prog 192 _ ReflectliteType.typeOf Tryz.func192 (by kernel_rfl) (by kernel_rfl) (by kernel_rfl) (by kernel_rfl)
  have h93 := @run_callFunc_extern Tryz.prog 270 _ (ReflectliteType.relation "AssignableTo" ReflectliteType.assignableTo) Tryz.func270 (by kernel_rfl) (by kernel_rfl) (by kernel_rfl) (by kernel_rfl)
  have h67 := @run_callFunc_extern Tryz.prog 223 _ (ReflectliteValue.method (ReflectliteValue.valueError "reflectlite.Value.Elem" 0) ReflectliteValue.elem) Tryz.func223 (by kernel_rfl) (by kernel_rfl) (by kernel_rfl) (by kernel_rfl)
  have h68 := @run_callFunc_extern Tryz.prog 224 _ ReflectliteValue.set Tryz.func224 (by kernel_rfl) (by kernel_rfl) (by kernel_rfl) (by kernel_rfl)
  have tO := typeOfE
  have mA := methodAssignableTo
  have a25 := assignableE
  have v25 := valueOfE
  have f6 := valueOfPE
  have f7 := typePE
  have mK := methodKind
  have mE := methodElem
  have mI := methodImplements
  have k27 := kindPE
  have k25 := kindE
  have e27 := elemPE
  have i25 := implementsE
  have n8 := isNilPE ⟨w.heap.size, 0, none⟩ t ((w.alloc (.cells #[.pointer (some t)] 203)).alloc (.cells #[.pointer (some ⟨1, 203, none⟩), .pointer (some ⟨w.heap.size, 0, none⟩), .int .u64 150] 240)) (by simp)
  have hlt : 0 < w.heap.size := by
    rcases Nat.eq_zero_or_pos w.heap.size with h0 | h
    · simp [World.cell?, h0] at hg
    · exact h
  have hg2 : ((w.alloc (.cells #[.pointer (some t)] 203)).alloc (.cells #[.pointer (some ⟨1, 203, none⟩), .pointer (some ⟨w.heap.size, 0, none⟩), .int .u64 150] 240)).cell? ⟨0, 0, none⟩ = some (.iface 265 (.agg #[.pointer (some ⟨1, 194, none⟩)])) := by
    rw [World.cell?_alloc_lt _ _ ⟨0, 0, none⟩ (by simp), World.cell?_alloc_lt _ _ ⟨0, 0, none⟩ hlt]; exact hg
  have htl : t.block < w.heap.size := by
    rcases Nat.lt_or_ge t.block w.heap.size with h | h
    · exact h
    · simp [World.cell?, Array.getElem?_eq_none h] at ht0
  have el := elemVPE ⟨w.heap.size, 0, none⟩ t (((w.alloc (.cells #[.pointer (some t)] 203)).alloc (.cells #[.pointer (some ⟨1, 203, none⟩), .pointer (some ⟨w.heap.size, 0, none⟩), .int .u64 150] 240)).alloc (.cells #[.pointer (some ⟨1, 203, none⟩), .pointer (some ⟨w.heap.size, 0, none⟩), .int .u64 150] 240)) (by rw [World.cell?_alloc_lt _ _ ⟨w.heap.size, 0, none⟩ (by simp; omega)]; simp)
  have st := setE t ⟨w.heap.size + 1 + 1 + 1, 0, none⟩ n old ((((w.alloc (.cells #[.pointer (some t)] 203)).alloc (.cells #[.pointer (some ⟨1, 203, none⟩), .pointer (some ⟨w.heap.size, 0, none⟩), .int .u64 150] 240)).alloc (.cells #[.pointer (some ⟨1, 203, none⟩), .pointer (some ⟨w.heap.size, 0, none⟩), .int .u64 150] 240)).alloc (.cells #[.int .i64 n] 57))
    (by rw [World.cell?_alloc_at _ _ _ _ (by simp)]; rfl)
    (by rw [World.cell?_alloc_lt _ _ t (by simp; omega), World.cell?_alloc_lt _ _ t (by simp; omega), World.cell?_alloc_lt _ _ t (by simp; omega), World.cell?_alloc_lt _ _ t htl]; exact ht0)
    (by rw [World.frozen?_alloc_old _ _ t (by simp; omega), World.frozen?_alloc_old _ _ t (by simp; omega), World.frozen?_alloc_old _ _ t (by simp; omega), World.frozen?_alloc_old _ _ t (Nat.ne_of_lt htl)]; exact hf0)
  go_enter Tryz.func158, Tryz.ntmps158
  go_wp2
  refine wp_loop_rounds 1 ?_
  rw [rounds_succ]
  go_wp2
  go_ret
  exact ⟨rfl, rfl⟩
theorem valueOfPW (t : Addr) (w : World) : (ReflectliteValue.unpack (.iface 200 (.pointer (some t)))).run Tryz.prog w
    = .ok (.agg #[.pointer (some ⟨1, 200, none⟩), .pointer (some ⟨w.heap.size, 0, none⟩), .int .u64 150]) (w.alloc (.cells #[.pointer (some t)] 200)) := by kernel_rfl
theorem typePW (a : Addr) (w : World) : (ReflectliteValue.methodAny (ReflectliteValue.valueError "reflectlite.Value.Type" 0) (fun t _ _ _ => ReflectliteType.toType t) #[.agg #[.pointer (some ⟨1, 200, none⟩), .pointer (some a), .int .u64 150]]).run Tryz.prog w
    = .ok (.iface 265 (.agg #[.pointer (some ⟨1, 200, none⟩)])) w := by kernel_rfl
theorem kindPW (w : World) : ((ReflectliteType.abiMethod fun t => (fun a : Nat => Value.int IntKind.u8 (a : Int)) <$> Rtype.kind t) #[.pointer (some ⟨1, 200, none⟩)]).run Tryz.prog w = .ok (.int .u8 22) w := by kernel_rfl
theorem kindW (w : World) : ((ReflectliteType.abiMethod fun t => (fun a : Nat => Value.int IntKind.u8 (a : Int)) <$> Rtype.kind t) #[.pointer (some ⟨1, 197, none⟩)]).run Tryz.prog w = .ok (.int .u8 22) w := by kernel_rfl
theorem partsPW (a : Addr) (w : World) : (ReflectliteValue.parts (.agg #[.pointer (some ⟨1, 200, none⟩), .pointer (some a), .int .u64 150])).run Tryz.prog w = .ok (some (200, a, 150)) w := by kernel_rfl
theorem isNilPW (a p : Addr) (W : World) (ha : W.cell? a = some (.pointer (some p))) :
    (ReflectliteValue.method (ReflectliteValue.valueError "reflectlite.Value.IsNil" 0) ReflectliteValue.isNil #[.agg #[.pointer (some ⟨1, 200, none⟩), .pointer (some a), .int .u64 150]]).run Tryz.prog W = .ok (.bool false) W := by
  rw [rlm]
  simp only [Sem.run_bind, partsPW, Result.andThen]
  simp [ReflectliteValue.isNil, loadVar, isAgg, underlying, Tryz.underlying200, ha, Result.andThen]
theorem elemPW (w : World) : (ReflectliteType.method ReflectliteType.elem #[.agg #[.pointer (some ⟨1, 200, none⟩)]]).run Tryz.prog w = .ok (.iface 265 (.agg #[.pointer (some ⟨1, 197, none⟩)])) w := by kernel_rfl
theorem implementsW (w : World) : (ReflectliteType.relation "Implements" ReflectliteType.implements_ #[.agg #[.pointer (some ⟨1, 197, none⟩)], .iface 265 (.agg #[.pointer (some ⟨1, 194, none⟩)])]).run Tryz.prog w = .ok (.bool true) w := by kernel_rfl
theorem typeOfW (v : Value) (w : World) : (ReflectliteType.typeOf #[.iface 197 v]).run Tryz.prog w = .ok (.iface 265 (.agg #[.pointer (some ⟨1, 197, none⟩)])) w := by kernel_rfl
theorem assignableW (w : World) : (ReflectliteType.relation "AssignableTo" ReflectliteType.assignableTo #[.agg #[.pointer (some ⟨1, 197, none⟩)], .iface 265 (.agg #[.pointer (some ⟨1, 197, none⟩)])]).run Tryz.prog w = .ok (.bool true) w := by kernel_rfl
theorem valueOfW (e : Addr) (w : World) : (ReflectliteValue.unpack (.iface 197 (.pointer (some e)))).run Tryz.prog w
    = .ok (.agg #[.pointer (some ⟨1, 197, none⟩), .pointer (some ⟨w.heap.size, 0, none⟩), .int .u64 150]) (w.alloc (.cells #[.pointer (some e)] 197)) := by kernel_rfl
theorem elemOfPW (w : World) : (Rtype.elem? 200).run Tryz.prog w = .ok (some 197) w := by kernel_rfl
theorem mkW (p : Addr) (w : World) : (ReflectliteValue.mk 197 p ReflectliteValue.flagAddr).run Tryz.prog w = .ok (.agg #[.pointer (some ⟨1, 197, none⟩), .pointer (some p), .int .u64 406]) w := by kernel_rfl
theorem elemVPW (a p : Addr) (W : World) (ha : W.cell? a = some (.pointer (some p))) :
    (ReflectliteValue.method (ReflectliteValue.valueError "reflectlite.Value.Elem" 0) ReflectliteValue.elem #[.agg #[.pointer (some ⟨1, 200, none⟩), .pointer (some a), .int .u64 150]]).run Tryz.prog W
      = .ok (.agg #[.pointer (some ⟨1, 197, none⟩), .pointer (some p), .int .u64 406]) W := by
  rw [rlm]
  simp only [Sem.run_bind, partsPW, Result.andThen]
  simp [ReflectliteValue.elem, loadVar, isAgg, underlying, Tryz.underlying200, ha, Result.andThen, elemOfPW, mkW]
theorem partsWa (a : Addr) (w : World) : (ReflectliteValue.parts (.agg #[.pointer (some ⟨1, 197, none⟩), .pointer (some a), .int .u64 406])).run Tryz.prog w = .ok (some (197, a, 406)) w := by kernel_rfl
theorem partsW (a : Addr) (w : World) : (ReflectliteValue.parts (.agg #[.pointer (some ⟨1, 197, none⟩), .pointer (some a), .int .u64 150])).run Tryz.prog w = .ok (some (197, a, 150)) w := by kernel_rfl
theorem directW (w : World) : (Rtype.directlyAssignable 197 197).run Tryz.prog w = .ok true w := by kernel_rfl
theorem setW (ta b : Addr) (e : Addr) (old : Value) (W : World) (hb : W.cell? b = some (.pointer (some e))) (ht : W.cell? ta = some old) (hf : W.frozen? ta = false) :
    (ReflectliteValue.set #[.agg #[.pointer (some ⟨1, 197, none⟩), .pointer (some ta), .int .u64 406], .agg #[.pointer (some ⟨1, 197, none⟩), .pointer (some b), .int .u64 150]]).run Tryz.prog W
      = .ok (.tuple #[]) (W.setCell ta (.pointer (some e))) := by
  rw [rls]
  simp only [Sem.run_bind, partsWa, partsW, Result.andThen]
  simp [ReflectliteValue.flagAddr, loadVar, isAgg, underlying, Tryz.underlying197, hb, Result.andThen, directW, storeVar, Value.cells, storeCells, Addr.add]
  rw [run_store Tryz.prog W ta _ _ (by rfl)]
  simp [ht, hf]
theorem as_hitW (e : Addr) (t : Addr) (old : Value) (w : World) (hg : w.cell? ⟨0, 0, none⟩ = some (.iface 265 (.agg #[.pointer (some ⟨1, 194, none⟩)]))) (ht0 : w.cell? t = some old) (hf0 : w.frozen? t = false) :
    Calls Tryz.prog 158 #[.iface 197 (.pointer (some e)), .iface 200 (.pointer (some t))] w fun ev w' => ev = .returned (.bool true) ∧ w' = (((((w.alloc (.cells #[.pointer (some t)] 200)).alloc (.cells #[.pointer (some ⟨1, 200, none⟩), .pointer (some ⟨w.heap.size, 0, none⟩), .int .u64 150] 240)).alloc (.cells #[.pointer (some ⟨1, 200, none⟩), .pointer (some ⟨w.heap.size, 0, none⟩), .int .u64 150] 240)).alloc (.cells #[.pointer (some e)] 197)).setCell t (.pointer (some e))) := by
  have h60 := @run_callFunc_extern Tryz.prog 194 _ (fun args => ReflectliteValue.unpack (args.getD 0 (.tuple #[]))) Tryz.func194 (by kernel_rfl) (by kernel_rfl) (by kernel_rfl) (by kernel_rfl)
  have h61 := @run_callFunc_extern Tryz.prog 195 _ (ReflectliteValue.methodAny (ReflectliteValue.valueError "reflectlite.Value.Type" 0) (fun t _ _ _ => ReflectliteType.toType t)) Tryz.func195 (by kernel_rfl) (by kernel_rfl) (by kernel_rfl) (by kernel_rfl)
  have h62 := @run_callFunc_extern Tryz.prog 196 _ (ReflectliteValue.method (ReflectliteValue.valueError "reflectlite.Value.IsNil" 0) ReflectliteValue.isNil) Tryz.func196 (by kernel_rfl) (by kernel_rfl) (by kernel_rfl) (by kernel_rfl)
  have h83 := @run_callFunc_extern Tryz.prog 260 _ (ReflectliteType.abiMethod fun t => do pure (.int .u8 (← Rtype.kind t))) Tryz.func260 (by kernel_rfl) (by kernel_rfl) (by kernel_rfl) (by kernel_rfl)
  have h95 := @run_callFunc_extern Tryz.prog 272 _ (ReflectliteType.method ReflectliteType.elem) Tryz.func272 (by kernel_rfl) (by kernel_rfl) (by kernel_rfl) (by kernel_rfl)
  have h96 := @run_callFunc_extern Tryz.prog 273 _ (ReflectliteType.relation "Implements" ReflectliteType.implements_) Tryz.func273 (by kernel_rfl) (by kernel_rfl) (by kernel_rfl) (by kernel_rfl)
  have h66 := @run_callFunc_extern Tryz.prog 192 _ ReflectliteType.typeOf Tryz.func192 (by kernel_rfl) (by kernel_rfl) (by kernel_rfl) (by kernel_rfl)
  have h93 := @run_callFunc_extern Tryz.prog 270 _ (ReflectliteType.relation "AssignableTo" ReflectliteType.assignableTo) Tryz.func270 (by kernel_rfl) (by kernel_rfl) (by kernel_rfl) (by kernel_rfl)
  have h67 := @run_callFunc_extern Tryz.prog 223 _ (ReflectliteValue.method (ReflectliteValue.valueError "reflectlite.Value.Elem" 0) ReflectliteValue.elem) Tryz.func223 (by kernel_rfl) (by kernel_rfl) (by kernel_rfl) (by kernel_rfl)
  have h68 := @run_callFunc_extern Tryz.prog 224 _ ReflectliteValue.set Tryz.func224 (by kernel_rfl) (by kernel_rfl) (by kernel_rfl) (by kernel_rfl)
  have tO := typeOfW
  have mA := methodAssignableTo
  have a25 := assignableW
  have v25 := valueOfW
  have f6 := valueOfPW
  have f7 := typePW
  have mK := methodKind
  have mE := methodElem
  have mI := methodImplements
  have k27 := kindPW
  have k25 := kindW
  have e27 := elemPW
  have i25 := implementsW
  have n8 := isNilPW ⟨w.heap.size, 0, none⟩ t ((w.alloc (.cells #[.pointer (some t)] 200)).alloc (.cells #[.pointer (some ⟨1, 200, none⟩), .pointer (some ⟨w.heap.size, 0, none⟩), .int .u64 150] 240)) (by simp)
  have hlt : 0 < w.heap.size := by
    rcases Nat.eq_zero_or_pos w.heap.size with h0 | h
    · simp [World.cell?, h0] at hg
    · exact h
  have hg2 : ((w.alloc (.cells #[.pointer (some t)] 200)).alloc (.cells #[.pointer (some ⟨1, 200, none⟩), .pointer (some ⟨w.heap.size, 0, none⟩), .int .u64 150] 240)).cell? ⟨0, 0, none⟩ = some (.iface 265 (.agg #[.pointer (some ⟨1, 194, none⟩)])) := by
    rw [World.cell?_alloc_lt _ _ ⟨0, 0, none⟩ (by simp), World.cell?_alloc_lt _ _ ⟨0, 0, none⟩ hlt]; exact hg
  have htl : t.block < w.heap.size := by
    rcases Nat.lt_or_ge t.block w.heap.size with h | h
    · exact h
    · simp [World.cell?, Array.getElem?_eq_none h] at ht0
  have el := elemVPW ⟨w.heap.size, 0, none⟩ t (((w.alloc (.cells #[.pointer (some t)] 200)).alloc (.cells #[.pointer (some ⟨1, 200, none⟩), .pointer (some ⟨w.heap.size, 0, none⟩), .int .u64 150] 240)).alloc (.cells #[.pointer (some ⟨1, 200, none⟩), .pointer (some ⟨w.heap.size, 0, none⟩), .int .u64 150] 240)) (by rw [World.cell?_alloc_lt _ _ ⟨w.heap.size, 0, none⟩ (by simp; omega)]; simp)
  have st := setW t ⟨w.heap.size + 1 + 1 + 1, 0, none⟩ e old ((((w.alloc (.cells #[.pointer (some t)] 200)).alloc (.cells #[.pointer (some ⟨1, 200, none⟩), .pointer (some ⟨w.heap.size, 0, none⟩), .int .u64 150] 240)).alloc (.cells #[.pointer (some ⟨1, 200, none⟩), .pointer (some ⟨w.heap.size, 0, none⟩), .int .u64 150] 240)).alloc (.cells #[.pointer (some e)] 197))
    (by rw [World.cell?_alloc_at _ _ _ _ (by simp)]; rfl)
    (by rw [World.cell?_alloc_lt _ _ t (by simp; omega), World.cell?_alloc_lt _ _ t (by simp; omega), World.cell?_alloc_lt _ _ t (by simp; omega), World.cell?_alloc_lt _ _ t htl]; exact ht0)
    (by rw [World.frozen?_alloc_old _ _ t (by simp; omega), World.frozen?_alloc_old _ _ t (by simp; omega), World.frozen?_alloc_old _ _ t (by simp; omega), World.frozen?_alloc_old _ _ t (Nat.ne_of_lt htl)]; exact hf0)
  go_enter Tryz.func158, Tryz.ntmps158
  go_wp2
  refine wp_loop_rounds 1 ?_
  rw [rounds_succ]
  go_wp2
  go_ret
  exact ⟨rfl, rfl⟩
end Gm.As

set_option maxRecDepth 100000
namespace Gm.As
open Go Go.Proofs Go.RowKit Go.Extern.Stop Go.Stop Go.Extern
theorem isComparable (w : World) : ((ReflectliteType.method fun t => do Rtype.noPackHeld "Comparable" t; (fun a => Value.bool a.comparable) <$> typeInfo t) #[.agg #[.pointer (some ⟨1, 57, none⟩)]]).run Tryz.prog w = .ok (.bool true) w := by kernel_rfl
theorem isMethodComparable (v : Value) (w : World) : (Go.method 432 265 v "Comparable").run Tryz.prog w = .ok (271, v) w := by kernel_rfl
theorem noIsW (v : Value) (xT : TypeId) (w : World) : (Instr.typeAssert (.iface 197 v) xT 267 true).run Tryz.prog w = .ok (.tuple #[.nilIface, .bool false]) w := run_typeAssert_lacksB Tryz.underlying267 (by kernel_rfl) (by kernel_rfl) v xT w
theorem hasUnwrapW (v : Value) (xT : TypeId) (w : World) : (Instr.typeAssert (.iface 197 v) xT 270 true).run Tryz.prog w = .ok (.tuple #[.iface 197 v, .bool true]) w := run_typeAssert_hasB Tryz.underlying270 (by kernel_rfl) v xT w
theorem methodUnwrap (v : Value) (w : World) : (Go.method 432 197 v "Unwrap").run Tryz.prog w = .ok (265, v) w := by kernel_rfl
theorem noIsE (v : Value) (xT : TypeId) (w : World) : (Instr.typeAssert (.iface 57 v) xT 267 true).run Tryz.prog w = .ok (.tuple #[.nilIface, .bool false]) w := run_typeAssert_lacksB Tryz.underlying267 (by kernel_rfl) (by kernel_rfl) v xT w
theorem noUnwrapE (v : Value) (xT : TypeId) (w : World) : (Instr.typeAssert (.iface 57 v) xT 270 true).run Tryz.prog w = .ok (.tuple #[.nilIface, .bool false]) w := run_typeAssert_lacksB Tryz.underlying270 (by kernel_rfl) (by kernel_rfl) v xT w
theorem noUnwrapsE (v : Value) (xT : TypeId) (w : World) : (Instr.typeAssert (.iface 57 v) xT 272 true).run Tryz.prog w = .ok (.tuple #[.nilIface, .bool false]) w := run_typeAssert_lacksB Tryz.underlying272 (by kernel_rfl) (by kernel_rfl) v xT w
set_option maxHeartbeats 4000000 in
theorem is_form (pb po : Nat) (w : World) (h1 : w.cell? ⟨pb, po + 1, none⟩ = some (.iface 57 (.int .i64 2))) :
    Calls Tryz.prog 157 #[.iface 197 (.pointer (some ⟨pb, po, none⟩)), .iface 57 (.int .i64 3)] w fun e w' => e = .returned (.bool false) ∧ w' = w := by
  have hT := @run_callFunc_extern Tryz.prog 192 _ ReflectliteType.typeOf Tryz.func192 (by kernel_rfl) (by kernel_rfl) (by kernel_rfl) (by kernel_rfl)
  have hC := @run_callFunc_extern Tryz.prog 271 _ (ReflectliteType.method fun t => do Rtype.noPackHeld "Comparable" t; pure (.bool (← typeInfo t).comparable)) Tryz.func271 (by kernel_rfl) (by kernel_rfl) (by kernel_rfl) (by kernel_rfl)
  have tT := typeOfE
  have cT := isComparable
  have mR := isMethodComparable
  have nE := noIsE
  have uE := noUnwrapE
  have vE := noUnwrapsE
  have nW := noIsW
  have uW := hasUnwrapW
  have mU := methodUnwrap
  have heq := Go.Lib.run_eql_iface_int (P := Tryz.prog) (k := .i64) w 2 3 Tryz.underlying194 (by kernel_rfl) Tryz.underlying57
  have hty := run_eql_iface_types (P := Tryz.prog) 197 57 (.pointer (some ⟨pb, po, none⟩)) (.int .i64 3) Tryz.underlying194 (by decide) w
  go_enter Tryz.func157, Tryz.ntmps157
  go_wp2
  refine wp_loop_rounds 2 ?_
  rw [rounds_succ]
  go_wp2
  rw [rounds_succ]
  go_wp2
  go_ret
  exact ⟨rfl, rfl⟩
end Gm.As

set_option maxRecDepth 100000
namespace Gm.As
open Go Go.Proofs Go.RowKit Go.Extern.Stop Go.Stop Go.Extern
theorem checkOpen_short (b : ByteArray) (hb : b.size < 4) (w : World) :
    Calls Tryz.prog 114 #[.string b] w fun e w' => e = .returned (.tuple #[.string ⟨#[]⟩, .int .i64 2]) ∧ w' = w := by
  go_enter Tryz.func114, Tryz.ntmps114
  go_wp2
  (try simp only [Exit.inBlock, Exit.then])
  refine bodyPost_ret (v := .tuple #[.string ⟨#[]⟩, .int .i64 2]) (by simp [results, Tryz.results114, go_sem]) rfl ⟨rfl, rfl⟩
theorem open_short (b : ByteArray) (hb : b.size < 4) (w : World) :
    Calls Tryz.prog 189 #[.string b] w fun e w' => e = .returned (.tuple #[.string ⟨#[]⟩, .iface 197 (.pointer (some ⟨w.heap.size, 0, none⟩))]) ∧ w' = w.alloc (.cells #[.string ⟨#[115, 101, 97, 108]⟩, .iface 57 (.int .i64 2)] 202) := by
  go_enter Tryz.func189, Tryz.ntmps189
  go_wp2_with (go_at_call 114; refine (checkOpen_short b hb _).mono ?_; rintro e w' ⟨rfl, rfl⟩)
  (try simp only [Exit.inBlock, Exit.then])
  refine bodyPost_ret (v := .tuple #[.string ⟨#[]⟩, .iface 197 (.pointer (some ⟨_, 0, none⟩))]) (by simp [results, Tryz.results189, go_sem]) rfl ⟨rfl, rfl⟩
abbrev zsup : Array Value := #[.int .i64 0, .int .u64 0, .int .u64 0, .int .u64 0, .int .u64 0, .bool false, .bool false, .bool false]
theorem decode_short (b : ByteArray) (hb : b.size < 4) (w : World) :
    Calls Tryz.prog 156 #[.string b] w fun e w' => e = .returned (.tuple #[.agg zsup, .iface 197 (.pointer (some ⟨w.heap.size + 1, 0, none⟩))]) ∧ w' = (w.alloc (.cells #[.int .i64 0, .int .u64 0, .int .u64 0, .int .u64 0, .int .u64 0, .bool false, .bool false, .bool false] 36)).alloc (.cells #[.string ⟨#[115, 101, 97, 108]⟩, .iface 57 (.int .i64 2)] 202) := by
  go_enter Tryz.func156, Tryz.ntmps156
  go_wp2_with (go_at_call 189; refine (open_short b hb _).mono ?_; rintro e w' ⟨rfl, rfl⟩)
  (try simp only [Exit.inBlock, Exit.then])
  refine bodyPost_ret (by simp [results, Tryz.results156, go_sem]; try rfl) rfl ?_
  exact ⟨rfl, rfl⟩
structure Same (B : Nat) (w w' : World) : Prop where
  cell : ∀ a : Addr, a.block < w.heap.size → a.block ≠ B → w'.cell? a = w.cell? a
  fz : ∀ a : Addr, a.block < w.heap.size → w'.frozen? a = w.frozen? a
  size : w.heap.size ≤ w'.heap.size
  below : ∀ M, M ≤ B → M ≤ w.heap.size → Below M w w'
theorem Same.refl (B : Nat) (w : World) : Same B w w := ⟨fun _ _ _ => rfl, fun _ _ => rfl, Nat.le_refl _, fun _ _ _ => Below.refl _ _⟩
theorem Same.alloc {B : Nat} {a w : World} (h : Same B a w) (o : Obj) : Same B a (w.alloc o) where
  cell := fun x hx hB => by rw [World.cell?_alloc_lt _ _ x (Nat.lt_of_lt_of_le hx h.size)]; exact h.cell x hx hB
  fz := fun x hx => by rw [World.frozen?_alloc_old _ _ x (Nat.ne_of_lt (Nat.lt_of_lt_of_le hx h.size))]; exact h.fz x hx
  size := by have := h.size; simp; omega
  below := fun M hM hs => (h.below M hM hs).alloc (Nat.le_trans hs h.size) o
theorem frozen_set {W : World} {p a : Addr} {v : Value} : (W.setCell p v).frozen? a = W.frozen? a := by
  unfold World.frozen? World.setCell
  by_cases e : p.block = a.block
  · simp only [Array.getElem?_modify, e, if_true]
    cases hb : W.heap[a.block]? with
    | none => simp
    | some o => cases o <;> simp
  · simp only [Array.getElem?_modify, e, if_false]
theorem Same.set {B : Nat} {a w : World} (h : Same B a w) {p : Addr} (hp : p.block = B) (v : Value) : Same B a (w.setCell p v) where
  cell := fun x hx hB => by rw [World.cell?_setCell_other _ _ _ _ (fun e => hB (by rw [← e]; exact hp))]; exact h.cell x hx hB
  fz := fun x hx => by rw [frozen_set]; exact h.fz x hx
  size := by have := h.size; unfold World.setCell; simpa using this
  below := fun M hM hs => (h.below M hM hs).setCell (by omega) v
theorem lt_of_cell {w : World} {B : Nat} {v : Value} (h : w.cell? ⟨B, 0, none⟩ = some v) : B < w.heap.size := by
  rcases Nat.lt_or_ge B w.heap.size with g | g
  · exact g
  · simp [World.cell?, Array.getElem?_eq_none g] at h
theorem asW (e : Addr) (B : Nat) (old : Value) (w : World) (hg : w.cell? ⟨0, 0, none⟩ = some (.iface 265 (.agg #[.pointer (some ⟨1, 194, none⟩)]))) (ht0 : w.cell? ⟨B, 0, none⟩ = some old) (hf0 : w.frozen? ⟨B, 0, none⟩ = false) :
    Calls Tryz.prog 158 #[.iface 197 (.pointer (some e)), .iface 200 (.pointer (some ⟨B, 0, none⟩))] w fun ev w' => ev = .returned (.bool true) ∧ Same B w w' ∧ w'.cell? ⟨B, 0, none⟩ = some (.pointer (some e)) := by
  refine (as_hitW e ⟨B, 0, none⟩ old w hg ht0 hf0).mono ?_
  rintro ev w' ⟨rfl, rfl⟩
  refine ⟨rfl, (((((Same.refl B w).alloc _).alloc _).alloc _).alloc _).set rfl _, ?_⟩
  have h1 := ((((Same.refl (B + 1) w).alloc (.cells #[.pointer (some ⟨B, 0, none⟩)] 200)).alloc (.cells #[.pointer (some ⟨1, 200, none⟩), .pointer (some ⟨w.heap.size, 0, none⟩), .int .u64 150] 240)).alloc (.cells #[.pointer (some ⟨1, 200, none⟩), .pointer (some ⟨w.heap.size, 0, none⟩), .int .u64 150] 240)).alloc (.cells #[.pointer (some e)] 197)
  exact World.cell?_setCell_same _ _ _ ((h1.cell ⟨B, 0, none⟩ (lt_of_cell ht0) (by simp)).trans ht0)
theorem asE (n : Int) (B : Nat) (old : Value) (w : World) (hg : w.cell? ⟨0, 0, none⟩ = some (.iface 265 (.agg #[.pointer (some ⟨1, 194, none⟩)]))) (ht0 : w.cell? ⟨B, 0, none⟩ = some old) (hf0 : w.frozen? ⟨B, 0, none⟩ = false) :
    Calls Tryz.prog 158 #[.iface 57 (.int .i64 n), .iface 203 (.pointer (some ⟨B, 0, none⟩))] w fun ev w' => ev = .returned (.bool true) ∧ Same B w w' ∧ w'.cell? ⟨B, 0, none⟩ = some (.int .i64 n) := by
  refine (as_hitE n ⟨B, 0, none⟩ old w hg ht0 hf0).mono ?_
  rintro ev w' ⟨rfl, rfl⟩
  refine ⟨rfl, (((((Same.refl B w).alloc _).alloc _).alloc _).alloc _).set rfl _, ?_⟩
  have h1 := ((((Same.refl (B + 1) w).alloc (.cells #[.pointer (some ⟨B, 0, none⟩)] 203)).alloc (.cells #[.pointer (some ⟨1, 203, none⟩), .pointer (some ⟨w.heap.size, 0, none⟩), .int .u64 150] 240)).alloc (.cells #[.pointer (some ⟨1, 203, none⟩), .pointer (some ⟨w.heap.size, 0, none⟩), .int .u64 150] 240)).alloc (.cells #[.int .i64 n] 57)
  exact World.cell?_setCell_same _ _ _ ((h1.cell ⟨B, 0, none⟩ (lt_of_cell ht0) (by simp)).trans ht0)
theorem setCell_id {w : World} {B k : Nat} {v : Value} (h : w.cell? ⟨B, k, none⟩ = some v) : w.setCell ⟨B, k, none⟩ v = w := by
  obtain ⟨heap, t, d, os, out⟩ := w
  unfold World.setCell
  congr 1
  apply Array.ext (by simp)
  intro i h1 h2
  rw [Array.getElem_modify]
  split
  · rename_i e
    dsimp only at e
    subst e
    simp only [World.cell?, Array.getElem?_eq_getElem h2] at h
    split
    · rename_i c elem fr hc
      rw [hc] at h
      dsimp only at h
      rw [hc]
      congr 1
      simp only [Option.isSome_none, Bool.false_eq_true, if_false]
      apply Array.ext (by simp)
      intro j g1 g2
      rw [Array.getElem_setIfInBounds]
      split
      · rename_i e
        subst e
        have h : c[k]? = some v := h
        rw [Array.getElem?_eq_getElem g2] at h
        exact (Option.some.inj h).symm
      · rfl
    · rfl
  · rfl
abbrev tow (w : World) : World := ((((w.alloc (.cells zsup 36)).alloc (.cells zsup 36)).alloc (.cells #[.string ⟨#[115, 101, 97, 108]⟩, .iface 57 (.int .i64 2)] 202)).alloc (.cells zsup 36)).alloc (.cells #[.pointer none] 197)
abbrev ETv : Value := .iface 265 (.agg #[.pointer (some ⟨1, 194, none⟩)])
structure Tow (n : Nat) (w : World) : Prop where
  g : w.cell? ⟨0, 0, none⟩ = some ETv
  e : w.cell? ⟨n + 1 + 1, 0 + 1, none⟩ = some (.iface 57 (.int .i64 2))
  z : ∀ k, k < 8 → w.cell? ⟨n, k, none⟩ = zsup[k]?
  f : ∀ k, w.frozen? ⟨n, k, none⟩ = false
  s : n + 1 + 1 + 1 + 1 < w.heap.size
  p : 0 < n
theorem Tow.same {n B : Nat} {w w' : World} (t : Tow n w) (h : Same B w w') (hB : n + 1 + 1 < B) : Tow n w' where
  g := (h.cell ⟨0, 0, none⟩ (Nat.lt_trans t.p (by have := t.s; omega)) (by have := t.p; show 0 ≠ B; omega)).trans t.g
  e := (h.cell ⟨n + 1 + 1, 0 + 1, none⟩ (by have := t.s; show n + 1 + 1 < _; omega) (by show n + 1 + 1 ≠ B; omega)).trans t.e
  z := fun k hk => (h.cell ⟨n, k, none⟩ (by have := t.s; show n < _; omega) (by show n ≠ B; omega)).trans (t.z k hk)
  f := fun k => (h.fz ⟨n, k, none⟩ (by have := t.s; show n < _; omega)).trans (t.f k)
  s := Nat.lt_of_lt_of_le t.s h.size
  p := t.p
theorem tow_ok (w : World) (hg : w.cell? ⟨0, 0, none⟩ = some ETv) : Tow w.heap.size (tow w) where
  g := by
    have hlt : 0 < w.heap.size := lt_of_cell hg
    unfold tow
    iterate 5 rw [World.cell?_alloc_lt _ _ _ (by simp <;> omega)]
    exact hg
  e := by
    unfold tow
    rw [World.cell?_alloc_lt _ _ _ (by simp <;> omega), World.cell?_alloc_lt _ _ _ (by simp <;> omega), World.cell?_alloc_at _ _ _ _ (by simp)]
    rfl
  z := by
    intro k _
    unfold tow
    iterate 4 rw [World.cell?_alloc_lt _ _ _ (by simp <;> omega)]
    exact World.cell?_alloc_at _ _ _ _ rfl
  f := by
    intro k
    unfold tow
    iterate 4 rw [World.frozen?_alloc_past _ _ _ (by simp <;> omega)]
    exact World.frozen?_alloc_at _ _ _ _ rfl
  s := by unfold tow; simp
  p := lt_of_cell hg
set_option maxHeartbeats 4000000 in
theorem Decode_short (b : ByteArray) (hb : b.size < 4) (w : World) (hg : w.cell? ⟨0, 0, none⟩ = some ETv) :
    Calls Tryz.prog 112 #[.string b] w fun e w' => e = .returned (.tuple #[.agg zsup, .int .i64 2]) ∧ Below w.heap.size w w' := by
  have Z := tow_ok w hg
  have htA : (tow w).cell? ⟨w.heap.size + 1 + 1 + 1 + 1, 0, none⟩ = some (.pointer none) := by
    unfold tow
    rw [World.cell?_alloc_at _ _ _ _ (by simp)]
    rfl
  have hfA : (tow w).frozen? ⟨w.heap.size + 1 + 1 + 1 + 1, 0, none⟩ = false := by
    unfold tow
    exact World.frozen?_alloc_at _ _ _ _ (by simp)
  have A1 := asW ⟨w.heap.size + 1 + 1, 0, none⟩ (w.heap.size + 1 + 1 + 1 + 1) (.pointer none) (tow w) Z.g htA hfA
  have I1 := is_form (w.heap.size + 1 + 1) 0 (tow w) Z.e
  have K : ∀ w2 : World, Same (w.heap.size + 1 + 1 + 1 + 1) (tow w) w2 → w2.cell? ⟨w.heap.size + 1 + 1 + 1 + 1, 0, none⟩ = some (.pointer (some ⟨w.heap.size + 1 + 1, 0, none⟩)) →
      Tow w.heap.size w2 ∧ Tow w.heap.size (w2.alloc (.cells #[.int .i64 0] 57)) ∧ (w2.alloc (.cells #[.int .i64 0] 57)).cell? ⟨w.heap.size + 1 + 1 + 1 + 1, 0, none⟩ = some (.pointer (some ⟨w.heap.size + 1 + 1, 0, none⟩)) ∧
        Calls Tryz.prog 158 #[.iface 57 (.int .i64 2), .iface 203 (.pointer (some ⟨w2.heap.size, 0, none⟩))] (w2.alloc (.cells #[.int .i64 0] 57)) fun ev w' => ev = .returned (.bool true) ∧ Same w2.heap.size (w2.alloc (.cells #[.int .i64 0] 57)) w' ∧ w'.cell? ⟨w2.heap.size, 0, none⟩ = some (.int .i64 2) := by
    intro w2 S2 g1
    have T2 := Z.same S2 (by omega)
    have U := (Same.refl w2.heap.size w2).alloc (.cells #[.int .i64 0] 57)
    have T3 := T2.same U (by have := T2.s; omega)
    refine ⟨T2, T3, (U.cell ⟨w.heap.size + 1 + 1 + 1 + 1, 0, none⟩ T2.s (by have := T2.s; show w.heap.size + 1 + 1 + 1 + 1 ≠ _; omega)).trans g1, ?_⟩
    exact asE 2 w2.heap.size (.int .i64 0) (w2.alloc (.cells #[.int .i64 0] 57)) T3.g (by simp) (by simp)
  have L : ∀ w2 w4 : World, Tow w.heap.size (w2.alloc (.cells #[.int .i64 0] 57)) → Same w2.heap.size (w2.alloc (.cells #[.int .i64 0] 57)) w4 → w.heap.size + 1 + 1 + 1 + 1 < w2.heap.size → Tow w.heap.size w4 :=
    fun w2 w4 t h hs => t.same h (by omega)
  go_enter Tryz.func112, Tryz.ntmps112
  go_wp2_with (first
    | (go_at_call 156; refine (decode_short b hb _).mono ?_; rintro e w' ⟨rfl, rfl⟩)
    | (go_at_call 157; refine I1.mono ?_; rintro e w' ⟨rfl, rfl⟩)
    | (go_at_call 158; refine A2.mono ?_; rintro e w4 ⟨rfl, S4, g4⟩; have T4 := L _ _ T3 S4 T2.s)
    | (go_at_call 158; refine A1.mono ?_; rintro e w2 ⟨rfl, S2, g1⟩; obtain ⟨T2, T3, g3, A2⟩ := K w2 S2 g1; have e3 := T3.e))
  have z0 : w4.cell? ⟨w.heap.size, 0, none⟩ = some (.int .i64 0) := T4.z 0 (by decide)
  have z1 : w4.cell? ⟨w.heap.size, 1, none⟩ = some (.int .u64 0) := T4.z 1 (by decide)
  have z2 : w4.cell? ⟨w.heap.size, 2, none⟩ = some (.int .u64 0) := T4.z 2 (by decide)
  have z3 : w4.cell? ⟨w.heap.size, 3, none⟩ = some (.int .u64 0) := T4.z 3 (by decide)
  have z4 : w4.cell? ⟨w.heap.size, 4, none⟩ = some (.int .u64 0) := T4.z 4 (by decide)
  have z5 : w4.cell? ⟨w.heap.size, 5, none⟩ = some (.bool false) := T4.z 5 (by decide)
  have z6 : w4.cell? ⟨w.heap.size, 6, none⟩ = some (.bool false) := T4.z 6 (by decide)
  have z7 : w4.cell? ⟨w.heap.size, 7, none⟩ = some (.bool false) := T4.z 7 (by decide)
  have s0 := setCell_id z0
  have s1 := setCell_id z1
  have s2 := setCell_id z2
  have s3 := setCell_id z3
  have s4 := setCell_id z4
  have s5 := setCell_id z5
  have s6 := setCell_id z6
  have s7 := setCell_id z7
  have f0 := T4.f 0
  have f1 := T4.f 1
  have f2 := T4.f 2
  have f3 := T4.f 3
  have f4 := T4.f 4
  have f5 := T4.f 5
  have f6 := T4.f 6
  have f7 := T4.f 7
  have rB : Below w.heap.size w w4 := by
    have r0 : Below w.heap.size w (tow w) := ((((Below.refl w.heap.size w).alloc (by simp) _).alloc (by simp) _).alloc (by simp <;> omega) _).alloc (by simp <;> omega) _ |>.alloc (by simp <;> omega) _
    have r1 := S2.below w.heap.size (by omega) (by have := Z.s; omega)
    have r2 := ((Same.refl w2.heap.size w2).alloc (.cells #[.int .i64 0] 57)).below w.heap.size (by have := T2.s; omega) (by have := T2.s; omega)
    have r3 := S4.below w.heap.size (by have := T2.s; omega) (by have := T3.s; omega)
    exact ((r0.trans r1).trans r2).trans r3
  go_region
  all_goals
    go_wp2
    (try simp only [Exit.inBlock, Exit.then])
    refine bodyPost_ret (by simp [results, Tryz.results112, go_sem, z0, z1, z2, z3, z4, z5, z6, z7]; try rfl) rfl ⟨rfl, ?_⟩
    exact rB.drew
end Gm.As

namespace Gm
open Go Go.Proofs
namespace errors_Is
noncomputable def en : Entry := fun _ _ => False
theorem edet (a : List AV) : Det (en a) := det_false
theorem has : ((E.P.funcs[157]?).bind (·.body)).isSome = true := by kernel_rfl
theorem sound : EntrySound E 157 en := ⟨callable_of num has, fun _ _ h => h.elim⟩
end errors_Is
namespace errors_As
noncomputable def en : Entry := fun _ _ => False
theorem edet (a : List AV) : Det (en a) := det_false
theorem has : ((E.P.funcs[158]?).bind (·.body)).isSome = true := by kernel_rfl
theorem sound : EntrySound E 158 en := ⟨callable_of num has, fun _ _ h => h.elim⟩
end errors_As
end Gm
