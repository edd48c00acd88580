/- What errors.As does at the two targets of packet.code: the error is of the target's own type. -/
import Derived.WalkKit
import Derived.LaidEql
import Derived.Stop.Asserts
import Derived.RowKitTokens
import Derived.Test.YtlaijgoahmigmaaGreatDoorGdE0
namespace Gm.As
open Go Go.Proofs Go.RowKit Go.Extern.Stop Go.Stop Go.Extern
theorem as_nil (t:Value) (w:World):Calls Tryz.prog 250 #[.nilIface,t] w fun e w'=>e=.returned (.bool false)∧w'=w:=by
 go_enter Tryz.func250,Tryz.ntmps250
 go_wp2
 go_ret
 exact⟨rfl,rfl⟩
theorem rlm (z:Sem Value) (f:TypeId->Addr->Nat->Nat->Sem Value) (v:Value) :
  ReflectliteValue.method z f #[v]=(do match ← ReflectliteValue.parts v with | none=>z | some (t,a,fl)=>f t a fl (fl % 32)):=rfl
theorem rls (v x:Value):ReflectliteValue.set #[v,x]=(do
  let (some (dst,a,fl),some (src,b,_)):=(← ReflectliteValue.parts v,← ReflectliteValue.parts x)
   | unsupported (.noEntry "extern/(internal/reflectlite.Value).Set.zeroValue")
  if fl / ReflectliteValue.flagAddr % 2==0 then unsupported (.noEntry "extern/(internal/reflectlite.Value).Set.unaddressable")
  let val ← loadVar src b
  if ← Rtype.directlyAssignable dst src then storeVar dst a val
  else if ← Rtype.implements dst src then
   if (← Rtype.kind src)==20 then
    match val with
    | .nilIface=>unsupported (.noEntry "extern/reflectlite: a nil value of one interface type handed on as a value of another")
    | _=>storeVar dst a val
   else storeVar dst a (.iface src val)
  else panicString ("reflectlite.Set: value of type " ++ (← Rtype.spelt src) ++ " is not assignable to type " ++ (← Rtype.spelt dst))
  pure (.tuple #[])):=rfl
theorem methodKind (h:Value) (w:World):(Go.method 442 302 (.agg #[h]) "Kind").run Tryz.prog w=.ok (297,h) w:=by kernel_rfl
theorem methodElem (h:Value) (w:World):(Go.method 442 302 (.agg #[h]) "Elem").run Tryz.prog w=.ok (310,.agg #[h]) w:=by kernel_rfl
theorem methodImplements (h:Value) (w:World):(Go.method 442 302 (.agg #[h]) "Implements").run Tryz.prog w=.ok (311,.agg #[h]) w:=by kernel_rfl
theorem methodAssignableTo (h:Value) (w:World):(Go.method 442 302 (.agg #[h]) "AssignableTo").run Tryz.prog w=.ok (308,.agg #[h]) w:=by kernel_rfl
theorem valueOf77 (t:Addr) (w:World):(ReflectliteValue.unpack (.iface 272 (.pointer (some t)))).run Tryz.prog w
  = .ok (.agg #[.pointer (some ⟨2,272,none⟩),.pointer (some ⟨w.heap.size,0,none⟩),.int .u64 150]) (w.alloc (.cells #[.pointer (some t)] 272)):=by kernel_rfl
theorem type77 (a:Addr) (w:World):(ReflectliteValue.methodAny (ReflectliteValue.valueError "reflectlite.Value.Type" 0) (fun t _ _ _=>ReflectliteType.toType t) #[.agg #[.pointer (some ⟨2,272,none⟩),.pointer (some a),.int .u64 150]]).run Tryz.prog w
  = .ok (.iface 302 (.agg #[.pointer (some ⟨2,272,none⟩)])) w:=by kernel_rfl
theorem kind77 (w:World):((ReflectliteType.abiMethod fun t=>(fun a:Nat=>Value.int IntKind.u8 (a:Int)) <$> Rtype.kind t) #[.pointer (some ⟨2,272,none⟩)]).run Tryz.prog w=.ok (.int .u8 22) w:=by kernel_rfl
theorem kind73 (w:World):((ReflectliteType.abiMethod fun t=>(fun a:Nat=>Value.int IntKind.u8 (a:Int)) <$> Rtype.kind t) #[.pointer (some ⟨2,268,none⟩)]).run Tryz.prog w=.ok (.int .u8 25) w:=by kernel_rfl
theorem parts77 (a:Addr) (w:World):(ReflectliteValue.parts (.agg #[.pointer (some ⟨2,272,none⟩),.pointer (some a),.int .u64 150])).run Tryz.prog w=.ok (some (272,a,150)) w:=by kernel_rfl
theorem isNil77 (a p:Addr) (W:World) (ha:W.cell? a=some (.pointer (some p))) :
  (ReflectliteValue.method (ReflectliteValue.valueError "reflectlite.Value.IsNil" 0) ReflectliteValue.isNil #[.agg #[.pointer (some ⟨2,272,none⟩),.pointer (some a),.int .u64 150]]).run Tryz.prog W=.ok (.bool false) W:=by
 rw [rlm]
 simp only [Sem.run_bind,parts77,Result.andThen]
 simp [ReflectliteValue.isNil,loadVar,isAgg,underlying,Tryz.underlying272,ha,Result.andThen]
theorem elem77 (w:World):(ReflectliteType.method ReflectliteType.elem #[.agg #[.pointer (some ⟨2,272,none⟩)]]).run Tryz.prog w=.ok (.iface 302 (.agg #[.pointer (some ⟨2,268,none⟩)])) w:=by kernel_rfl
theorem implements73 (w:World):(ReflectliteType.relation "Implements" ReflectliteType.implements_ #[.agg #[.pointer (some ⟨2,268,none⟩)],.iface 302 (.agg #[.pointer (some ⟨2,233,none⟩)])]).run Tryz.prog w=.ok (.bool true) w:=by kernel_rfl
theorem typeOf73 (v:Value) (w:World):(ReflectliteType.typeOf #[.iface 268 v]).run Tryz.prog w=.ok (.iface 302 (.agg #[.pointer (some ⟨2,268,none⟩)])) w:=by kernel_rfl
theorem assignable73 (w:World):(ReflectliteType.relation "AssignableTo" ReflectliteType.assignableTo #[.agg #[.pointer (some ⟨2,268,none⟩)],.iface 302 (.agg #[.pointer (some ⟨2,268,none⟩)])]).run Tryz.prog w=.ok (.bool true) w:=by kernel_rfl
theorem valueOf73 (v0 v1:Value) (w:World):(ReflectliteValue.unpack (.iface 268 (.agg #[v0,v1]))).run Tryz.prog w
  = .ok (.agg #[.pointer (some ⟨2,268,none⟩),.pointer (some ⟨w.heap.size,0,none⟩),.int .u64 153]) (w.alloc (.cells #[v0,v1] 268)):=by kernel_rfl
theorem elemOf77 (w:World):(Rtype.elem? 272).run Tryz.prog w=.ok (some 268) w:=by kernel_rfl
theorem mk73 (p:Addr) (w:World):(ReflectliteValue.mk 268 p ReflectliteValue.flagAddr).run Tryz.prog w=.ok (.agg #[.pointer (some ⟨2,268,none⟩),.pointer (some p),.int .u64 409]) w:=by kernel_rfl
theorem elemV77 (a p:Addr) (W:World) (ha:W.cell? a=some (.pointer (some p))) :
  (ReflectliteValue.method (ReflectliteValue.valueError "reflectlite.Value.Elem" 0) ReflectliteValue.elem #[.agg #[.pointer (some ⟨2,272,none⟩),.pointer (some a),.int .u64 150]]).run Tryz.prog W
    = .ok (.agg #[.pointer (some ⟨2,268,none⟩),.pointer (some p),.int .u64 409]) W:=by
 rw [rlm]
 simp only [Sem.run_bind,parts77,Result.andThen]
 simp [ReflectliteValue.elem,loadVar,isAgg,underlying,Tryz.underlying272,ha,Result.andThen,elemOf77,mk73]
theorem parts73a (a:Addr) (w:World):(ReflectliteValue.parts (.agg #[.pointer (some ⟨2,268,none⟩),.pointer (some a),.int .u64 409])).run Tryz.prog w=.ok (some (268,a,409)) w:=by kernel_rfl
theorem parts73 (a:Addr) (w:World):(ReflectliteValue.parts (.agg #[.pointer (some ⟨2,268,none⟩),.pointer (some a),.int .u64 153])).run Tryz.prog w=.ok (some (268,a,153)) w:=by kernel_rfl
theorem direct73 (w:World):(Rtype.directlyAssignable 268 268).run Tryz.prog w=.ok true w:=by kernel_rfl
theorem valueOf78 (t:Addr) (w:World):(ReflectliteValue.unpack (.iface 273 (.pointer (some t)))).run Tryz.prog w
  = .ok (.agg #[.pointer (some ⟨2,273,none⟩),.pointer (some ⟨w.heap.size,0,none⟩),.int .u64 150]) (w.alloc (.cells #[.pointer (some t)] 273)):=by kernel_rfl
theorem type78 (a:Addr) (w:World):(ReflectliteValue.methodAny (ReflectliteValue.valueError "reflectlite.Value.Type" 0) (fun t _ _ _=>ReflectliteType.toType t) #[.agg #[.pointer (some ⟨2,273,none⟩),.pointer (some a),.int .u64 150]]).run Tryz.prog w
  = .ok (.iface 302 (.agg #[.pointer (some ⟨2,273,none⟩)])) w:=by kernel_rfl
theorem kind78 (w:World):((ReflectliteType.abiMethod fun t=>(fun a:Nat=>Value.int IntKind.u8 (a:Int)) <$> Rtype.kind t) #[.pointer (some ⟨2,273,none⟩)]).run Tryz.prog w=.ok (.int .u8 22) w:=by kernel_rfl
theorem kind32 (w:World):((ReflectliteType.abiMethod fun t=>(fun a:Nat=>Value.int IntKind.u8 (a:Int)) <$> Rtype.kind t) #[.pointer (some ⟨2,55,none⟩)]).run Tryz.prog w=.ok (.int .u8 2) w:=by kernel_rfl
theorem parts78 (a:Addr) (w:World):(ReflectliteValue.parts (.agg #[.pointer (some ⟨2,273,none⟩),.pointer (some a),.int .u64 150])).run Tryz.prog w=.ok (some (273,a,150)) w:=by kernel_rfl
theorem isNil78 (a p:Addr) (W:World) (ha:W.cell? a=some (.pointer (some p))) :
  (ReflectliteValue.method (ReflectliteValue.valueError "reflectlite.Value.IsNil" 0) ReflectliteValue.isNil #[.agg #[.pointer (some ⟨2,273,none⟩),.pointer (some a),.int .u64 150]]).run Tryz.prog W=.ok (.bool false) W:=by
 rw [rlm]
 simp only [Sem.run_bind,parts78,Result.andThen]
 simp [ReflectliteValue.isNil,loadVar,isAgg,underlying,Tryz.underlying273,ha,Result.andThen]
theorem elem78 (w:World):(ReflectliteType.method ReflectliteType.elem #[.agg #[.pointer (some ⟨2,273,none⟩)]]).run Tryz.prog w=.ok (.iface 302 (.agg #[.pointer (some ⟨2,55,none⟩)])) w:=by kernel_rfl
theorem implements32 (w:World):(ReflectliteType.relation "Implements" ReflectliteType.implements_ #[.agg #[.pointer (some ⟨2,55,none⟩)],.iface 302 (.agg #[.pointer (some ⟨2,233,none⟩)])]).run Tryz.prog w=.ok (.bool true) w:=by kernel_rfl
theorem typeOf32 (v:Value) (w:World):(ReflectliteType.typeOf #[.iface 55 v]).run Tryz.prog w=.ok (.iface 302 (.agg #[.pointer (some ⟨2,55,none⟩)])) w:=by kernel_rfl
theorem assignable32 (w:World):(ReflectliteType.relation "AssignableTo" ReflectliteType.assignableTo #[.agg #[.pointer (some ⟨2,55,none⟩)],.iface 302 (.agg #[.pointer (some ⟨2,55,none⟩)])]).run Tryz.prog w=.ok (.bool true) w:=by kernel_rfl
theorem valueOf32 (n:Int) (w:World):(ReflectliteValue.unpack (.iface 55 (.int .i64 n))).run Tryz.prog w
  = .ok (.agg #[.pointer (some ⟨2,55,none⟩),.pointer (some ⟨w.heap.size,0,none⟩),.int .u64 130]) (w.alloc (.cells #[.int .i64 n] 55)):=by kernel_rfl
theorem elemOf78 (w:World):(Rtype.elem? 273).run Tryz.prog w=.ok (some 55) w:=by kernel_rfl
theorem mk32 (p:Addr) (w:World):(ReflectliteValue.mk 55 p ReflectliteValue.flagAddr).run Tryz.prog w=.ok (.agg #[.pointer (some ⟨2,55,none⟩),.pointer (some p),.int .u64 386]) w:=by kernel_rfl
theorem elemV78 (a p:Addr) (W:World) (ha:W.cell? a=some (.pointer (some p))) :
  (ReflectliteValue.method (ReflectliteValue.valueError "reflectlite.Value.Elem" 0) ReflectliteValue.elem #[.agg #[.pointer (some ⟨2,273,none⟩),.pointer (some a),.int .u64 150]]).run Tryz.prog W
    = .ok (.agg #[.pointer (some ⟨2,55,none⟩),.pointer (some p),.int .u64 386]) W:=by
 rw [rlm]
 simp only [Sem.run_bind,parts78,Result.andThen]
 simp [ReflectliteValue.elem,loadVar,isAgg,underlying,Tryz.underlying273,ha,Result.andThen,elemOf78,mk32]
theorem parts32a (a:Addr) (w:World):(ReflectliteValue.parts (.agg #[.pointer (some ⟨2,55,none⟩),.pointer (some a),.int .u64 386])).run Tryz.prog w=.ok (some (55,a,386)) w:=by kernel_rfl
theorem parts32 (a:Addr) (w:World):(ReflectliteValue.parts (.agg #[.pointer (some ⟨2,55,none⟩),.pointer (some a),.int .u64 130])).run Tryz.prog w=.ok (some (55,a,130)) w:=by kernel_rfl
theorem direct32 (w:World):(Rtype.directlyAssignable 55 55).run Tryz.prog w=.ok true w:=by kernel_rfl
end Gm.As

namespace Gm.As
open Go Go.Proofs Go.RowKit Go.Extern.Stop Go.Stop Go.Extern
theorem set32 (ta b:Addr) (n:Int) (old:Value) (W:World) (hb:W.cell? b=some (.int .i64 n)) (ht:W.cell? ta=some old) (hf:W.frozen? ta=false) :
  (ReflectliteValue.set #[.agg #[.pointer (some ⟨2,55,none⟩),.pointer (some ta),.int .u64 386],.agg #[.pointer (some ⟨2,55,none⟩),.pointer (some b),.int .u64 130]]).run Tryz.prog W
    = .ok (.tuple #[]) (W.setCell ta (.int .i64 n)):=by
 rw [rls]
 simp only [Sem.run_bind,parts32a,parts32,Result.andThen]
 simp [ReflectliteValue.flagAddr,loadVar,isAgg,underlying,Tryz.underlying55,hb,Result.andThen,direct32,storeVar,Value.cells,storeCells,Addr.add]
 rw [run_store Tryz.prog W ta _ _ (by rfl)]
 simp [ht,hf]
theorem set73 (B b:Nat) (v0 v1 o0 o1:Value) (W:World) (h0:W.cell? ⟨b,0,none⟩=some v0) (h1:W.cell? ⟨b,1,none⟩=some v1) (k0:W.cell? ⟨B,0,none⟩=some o0) (k1:(W.setCell ⟨B,0,none⟩ v0).cell? ⟨B,1,none⟩=some o1)
  (f0:W.frozen? ⟨B,0,none⟩=false) (f1:(W.setCell ⟨B,0,none⟩ v0).frozen? ⟨B,1,none⟩=false) (c0:v0.oneCell'=true) (c1:v1.oneCell'=true) :
  (ReflectliteValue.set #[.agg #[.pointer (some ⟨2,268,none⟩),.pointer (some ⟨B,0,none⟩),.int .u64 409],.agg #[.pointer (some ⟨2,268,none⟩),.pointer (some ⟨b,0,none⟩),.int .u64 153]]).run Tryz.prog W
    = .ok (.tuple #[]) ((W.setCell ⟨B,0,none⟩ v0).setCell ⟨B,1,none⟩ v1):=by
 rw [rls]
 simp only [Sem.run_bind,parts73a,parts73,Result.andThen]
 simp [ReflectliteValue.flagAddr,loadVar,isAgg,underlying,Tryz.underlying268,Tryz.sizeOf268,h0,h1,Result.andThen,direct73,storeVar,Value.cells,storeCells,Addr.add,loadCells,loadCellsFrom]
 rw [run_store Tryz.prog W ⟨B,0,none⟩ v0 _ c0]
 simp only [k0,f0,Bool.false_eq_true,if_false]
 rw [run_store Tryz.prog _ ⟨B,1,none⟩ v1 _ c1]
 simp [k1,f1]
theorem cell_set1 {W:World} {B:Nat} {v0 o1:Value} (h:W.cell? ⟨B,1,none⟩=some o1):(W.setCell ⟨B,0,none⟩ v0).cell? ⟨B,1,none⟩=some o1:=by
 rw [World.cell?_setCell_other _ _ _ _ (fun e=>by cases e)]
 exact h
theorem frozen_set1 {W:World} {B:Nat} {v0:Value} (h:W.frozen? ⟨B,1,none⟩=false):(W.setCell ⟨B,0,none⟩ v0).frozen? ⟨B,1,none⟩=false:=by
 unfold World.frozen? World.setCell at *
 simp only [Array.getElem?_modify,if_true] at h ⊢
 cases hb:W.heap[B]? with
 | none=>simp
 | some o=>
  rw [hb] at h
  cases o <;> first | (simp;done) | simpa using h
end Gm.As

namespace Gm.As
open Go Go.Proofs Go.RowKit Go.Extern.Stop Go.Stop Go.Extern
set_option maxHeartbeats 4000000 in
theorem as_hit32 (n:Int) (t:Addr) (old:Value) (w:World) (hg:w.cell? ⟨1,0,none⟩=some (.iface 302 (.agg #[.pointer (some ⟨2,233,none⟩)]))) (ht0:w.cell? t=some old) (hf0:w.frozen? t=false) :
  Calls Tryz.prog 250 #[.iface 55 (.int .i64 n),.iface 273 (.pointer (some t))] w fun ev w'=>ev=.returned (.bool true)∧w'=(((((w.alloc (.cells #[.pointer (some t)] 273)).alloc (.cells #[.pointer (some ⟨2,273,none⟩),.pointer (some ⟨w.heap.size,0,none⟩),.int .u64 150] 290)).alloc (.cells #[.pointer (some ⟨2,273,none⟩),.pointer (some ⟨w.heap.size,0,none⟩),.int .u64 150] 290)).alloc (.cells #[.int .i64 n] 55)).setCell t (.int .i64 n)):=by
 have h60:=@run_callFunc_extern Tryz.prog 270 _ (fun args=>ReflectliteValue.unpack (args.getD 0 (.tuple #[]))) Tryz.func270 (by kernel_rfl) (by kernel_rfl) (by kernel_rfl) (by kernel_rfl)
 have h61:=@run_callFunc_extern Tryz.prog 271 _ (ReflectliteValue.methodAny (ReflectliteValue.valueError "reflectlite.Value.Type" 0) (fun t _ _ _=>ReflectliteType.toType t)) Tryz.func271 (by kernel_rfl) (by kernel_rfl) (by kernel_rfl) (by kernel_rfl)
 have h62:=@run_callFunc_extern Tryz.prog 272 _ (ReflectliteValue.method (ReflectliteValue.valueError "reflectlite.Value.IsNil" 0) ReflectliteValue.isNil) Tryz.func272 (by kernel_rfl) (by kernel_rfl) (by kernel_rfl) (by kernel_rfl)
 have h83:=@run_callFunc_extern Tryz.prog 297 _ (ReflectliteType.abiMethod fun t=>do pure (.int .u8 (← Rtype.kind t))) Tryz.func297 (by kernel_rfl) (by kernel_rfl) (by kernel_rfl) (by kernel_rfl)
 have h95:=@run_callFunc_extern Tryz.prog 310 _ (ReflectliteType.method ReflectliteType.elem) Tryz.func310 (by kernel_rfl) (by kernel_rfl) (by kernel_rfl) (by kernel_rfl)
 have h96:=@run_callFunc_extern Tryz.prog 311 _ (ReflectliteType.relation "Implements" ReflectliteType.implements_) Tryz.func311 (by kernel_rfl) (by kernel_rfl) (by kernel_rfl) (by kernel_rfl)
 have h66:=@run_callFunc_extern Tryz.prog 279 _ ReflectliteType.typeOf Tryz.func279 (by kernel_rfl) (by kernel_rfl) (by kernel_rfl) (by kernel_rfl)
 have h93:=@run_callFunc_extern Tryz.prog 308 _ (ReflectliteType.relation "AssignableTo" ReflectliteType.assignableTo) Tryz.func308 (by kernel_rfl) (by kernel_rfl) (by kernel_rfl) (by kernel_rfl)
 have h67:=@run_callFunc_extern Tryz.prog 280 _ (ReflectliteValue.method (ReflectliteValue.valueError "reflectlite.Value.Elem" 0) ReflectliteValue.elem) Tryz.func280 (by kernel_rfl) (by kernel_rfl) (by kernel_rfl) (by kernel_rfl)
 have h68:=@run_callFunc_extern Tryz.prog 281 _ ReflectliteValue.set Tryz.func281 (by kernel_rfl) (by kernel_rfl) (by kernel_rfl) (by kernel_rfl)
 have tO:=typeOf32
 have mA:=methodAssignableTo
 have a25:=assignable32
 have v25:=valueOf32
 have f6:=valueOf78
 have f7:=type78
 have mK:=methodKind
 have mE:=methodElem
 have mI:=methodImplements
 have k27:=kind78
 have k25:=kind32
 have e27:=elem78
 have i25:=implements32
 have n8:=isNil78 ⟨w.heap.size,0,none⟩ t ((w.alloc (.cells #[.pointer (some t)] 273)).alloc (.cells #[.pointer (some ⟨2,273,none⟩),.pointer (some ⟨w.heap.size,0,none⟩),.int .u64 150] 290)) (by simp)
 have hlt:1 < w.heap.size:=by
  rcases Nat.lt_or_ge 1 w.heap.size with h | h
  ·exact h
  ·simp [World.cell?,Array.getElem?_eq_none h] at hg
 have hg2:((w.alloc (.cells #[.pointer (some t)] 273)).alloc (.cells #[.pointer (some ⟨2,273,none⟩),.pointer (some ⟨w.heap.size,0,none⟩),.int .u64 150] 290)).cell? ⟨1,0,none⟩=some (.iface 302 (.agg #[.pointer (some ⟨2,233,none⟩)])):=by
  rw [World.cell?_alloc_lt _ _ ⟨1,0,none⟩ (by simp;omega),World.cell?_alloc_lt _ _ ⟨1,0,none⟩ hlt];exact hg
 have htl:t.block < w.heap.size:=by
  rcases Nat.lt_or_ge t.block w.heap.size with h | h
  ·exact h
  ·simp [World.cell?,Array.getElem?_eq_none h] at ht0
 have el:=elemV78 ⟨w.heap.size,0,none⟩ t (((w.alloc (.cells #[.pointer (some t)] 273)).alloc (.cells #[.pointer (some ⟨2,273,none⟩),.pointer (some ⟨w.heap.size,0,none⟩),.int .u64 150] 290)).alloc (.cells #[.pointer (some ⟨2,273,none⟩),.pointer (some ⟨w.heap.size,0,none⟩),.int .u64 150] 290)) (by rw [World.cell?_alloc_lt _ _ ⟨w.heap.size,0,none⟩ (by simp;omega)];simp)
 have st:=set32 t ⟨w.heap.size+1+1+1,0,none⟩ n old ((((w.alloc (.cells #[.pointer (some t)] 273)).alloc (.cells #[.pointer (some ⟨2,273,none⟩),.pointer (some ⟨w.heap.size,0,none⟩),.int .u64 150] 290)).alloc (.cells #[.pointer (some ⟨2,273,none⟩),.pointer (some ⟨w.heap.size,0,none⟩),.int .u64 150] 290)).alloc (.cells #[.int .i64 n] 55))
  (by rw [World.cell?_alloc_at _ _ _ _ (by simp)];rfl)
  (by rw [World.cell?_alloc_lt _ _ t (by simp;omega),World.cell?_alloc_lt _ _ t (by simp;omega),World.cell?_alloc_lt _ _ t (by simp;omega),World.cell?_alloc_lt _ _ t htl];exact ht0)
  (by rw [World.frozen?_alloc_old _ _ t (by simp;omega),World.frozen?_alloc_old _ _ t (by simp;omega),World.frozen?_alloc_old _ _ t (by simp;omega),World.frozen?_alloc_old _ _ t (Nat.ne_of_lt htl)];exact hf0)
 go_enter Tryz.func250,Tryz.ntmps250
 go_wp2
 refine wp_loop_rounds 1 ?_
 rw [rounds_succ]
 go_wp2
 go_ret
 exact⟨rfl,rfl⟩
end Gm.As

namespace Gm.As
open Go Go.Proofs Go.RowKit Go.Extern.Stop Go.Stop Go.Extern
set_option maxHeartbeats 4000000 in
theorem as_hit73 (B:Nat) (v0 v1 o0 o1:Value) (w:World) (hg:w.cell? ⟨1,0,none⟩=some (.iface 302 (.agg #[.pointer (some ⟨2,233,none⟩)]))) (ht0:w.cell? ⟨B,0,none⟩=some o0) (ht1:w.cell? ⟨B,1,none⟩=some o1) (hf0:w.frozen? ⟨B,0,none⟩=false) (hf1:w.frozen? ⟨B,1,none⟩=false) (c0:v0.oneCell'=true) (c1:v1.oneCell'=true) :
  Calls Tryz.prog 250 #[.iface 268 (.agg #[v0,v1]),.iface 272 (.pointer (some ⟨B,0,none⟩))] w fun ev w'=>ev=.returned (.bool true)∧w'=((((((w.alloc (.cells #[.pointer (some ⟨B,0,none⟩)] 272)).alloc (.cells #[.pointer (some ⟨2,272,none⟩),.pointer (some ⟨w.heap.size,0,none⟩),.int .u64 150] 290)).alloc (.cells #[.pointer (some ⟨2,272,none⟩),.pointer (some ⟨w.heap.size,0,none⟩),.int .u64 150] 290)).alloc (.cells #[v0,v1] 268)).setCell ⟨B,0,none⟩ v0).setCell ⟨B,1,none⟩ v1):=by
 have h60:=@run_callFunc_extern Tryz.prog 270 _ (fun args=>ReflectliteValue.unpack (args.getD 0 (.tuple #[]))) Tryz.func270 (by kernel_rfl) (by kernel_rfl) (by kernel_rfl) (by kernel_rfl)
 have h61:=@run_callFunc_extern Tryz.prog 271 _ (ReflectliteValue.methodAny (ReflectliteValue.valueError "reflectlite.Value.Type" 0) (fun t _ _ _=>ReflectliteType.toType t)) Tryz.func271 (by kernel_rfl) (by kernel_rfl) (by kernel_rfl) (by kernel_rfl)
 have h62:=@run_callFunc_extern Tryz.prog 272 _ (ReflectliteValue.method (ReflectliteValue.valueError "reflectlite.Value.IsNil" 0) ReflectliteValue.isNil) Tryz.func272 (by kernel_rfl) (by kernel_rfl) (by kernel_rfl) (by kernel_rfl)
 have h83:=@run_callFunc_extern Tryz.prog 297 _ (ReflectliteType.abiMethod fun t=>do pure (.int .u8 (← Rtype.kind t))) Tryz.func297 (by kernel_rfl) (by kernel_rfl) (by kernel_rfl) (by kernel_rfl)
 have h95:=@run_callFunc_extern Tryz.prog 310 _ (ReflectliteType.method ReflectliteType.elem) Tryz.func310 (by kernel_rfl) (by kernel_rfl) (by kernel_rfl) (by kernel_rfl)
 have h96:=@run_callFunc_extern Tryz.prog 311 _ (ReflectliteType.relation "Implements" ReflectliteType.implements_) Tryz.func311 (by kernel_rfl) (by kernel_rfl) (by kernel_rfl) (by kernel_rfl)
 have h66:=@run_callFunc_extern Tryz.prog 279 _ ReflectliteType.typeOf Tryz.func279 (by kernel_rfl) (by kernel_rfl) (by kernel_rfl) (by kernel_rfl)
 have h93:=@run_callFunc_extern Tryz.prog 308 _ (ReflectliteType.relation "AssignableTo" ReflectliteType.assignableTo) Tryz.func308 (by kernel_rfl) (by kernel_rfl) (by kernel_rfl) (by kernel_rfl)
 have h67:=@run_callFunc_extern Tryz.prog 280 _ (ReflectliteValue.method (ReflectliteValue.valueError "reflectlite.Value.Elem" 0) ReflectliteValue.elem) Tryz.func280 (by kernel_rfl) (by kernel_rfl) (by kernel_rfl) (by kernel_rfl)
 have h68:=@run_callFunc_extern Tryz.prog 281 _ ReflectliteValue.set Tryz.func281 (by kernel_rfl) (by kernel_rfl) (by kernel_rfl) (by kernel_rfl)
 have tO:=typeOf73
 have mA:=methodAssignableTo
 have a25:=assignable73
 have v25:=valueOf73
 have f6:=valueOf77
 have f7:=type77
 have mK:=methodKind
 have mE:=methodElem
 have mI:=methodImplements
 have k27:=kind77
 have k25:=kind73
 have e27:=elem77
 have i25:=implements73
 have n8:=isNil77 ⟨w.heap.size,0,none⟩ ⟨B,0,none⟩ ((w.alloc (.cells #[.pointer (some ⟨B,0,none⟩)] 272)).alloc (.cells #[.pointer (some ⟨2,272,none⟩),.pointer (some ⟨w.heap.size,0,none⟩),.int .u64 150] 290)) (by simp)
 have hlt:1 < w.heap.size:=by
  rcases Nat.lt_or_ge 1 w.heap.size with h | h
  ·exact h
  ·simp [World.cell?,Array.getElem?_eq_none h] at hg
 have hg2:((w.alloc (.cells #[.pointer (some ⟨B,0,none⟩)] 272)).alloc (.cells #[.pointer (some ⟨2,272,none⟩),.pointer (some ⟨w.heap.size,0,none⟩),.int .u64 150] 290)).cell? ⟨1,0,none⟩=some (.iface 302 (.agg #[.pointer (some ⟨2,233,none⟩)])):=by
  rw [World.cell?_alloc_lt _ _ ⟨1,0,none⟩ (by simp;omega),World.cell?_alloc_lt _ _ ⟨1,0,none⟩ hlt];exact hg
 have htl:B < w.heap.size:=by
  rcases Nat.lt_or_ge B w.heap.size with h | h
  ·exact h
  ·simp [World.cell?,Array.getElem?_eq_none h] at ht0
 have el:=elemV77 ⟨w.heap.size,0,none⟩ ⟨B,0,none⟩ (((w.alloc (.cells #[.pointer (some ⟨B,0,none⟩)] 272)).alloc (.cells #[.pointer (some ⟨2,272,none⟩),.pointer (some ⟨w.heap.size,0,none⟩),.int .u64 150] 290)).alloc (.cells #[.pointer (some ⟨2,272,none⟩),.pointer (some ⟨w.heap.size,0,none⟩),.int .u64 150] 290)) (by rw [World.cell?_alloc_lt _ _ ⟨w.heap.size,0,none⟩ (by simp;omega)];simp)
 have k1:((((w.alloc (.cells #[.pointer (some ⟨B,0,none⟩)] 272)).alloc (.cells #[.pointer (some ⟨2,272,none⟩),.pointer (some ⟨w.heap.size,0,none⟩),.int .u64 150] 290)).alloc (.cells #[.pointer (some ⟨2,272,none⟩),.pointer (some ⟨w.heap.size,0,none⟩),.int .u64 150] 290)).alloc (.cells #[v0,v1] 268)).cell? ⟨B,1,none⟩=some o1:=(by rw [World.cell?_alloc_lt _ _ ⟨B,1,none⟩ (by simp;omega),World.cell?_alloc_lt _ _ ⟨B,1,none⟩ (by simp;omega),World.cell?_alloc_lt _ _ ⟨B,1,none⟩ (by simp;omega),World.cell?_alloc_lt _ _ ⟨B,1,none⟩ htl];exact ht1)
 have q1:((((w.alloc (.cells #[.pointer (some ⟨B,0,none⟩)] 272)).alloc (.cells #[.pointer (some ⟨2,272,none⟩),.pointer (some ⟨w.heap.size,0,none⟩),.int .u64 150] 290)).alloc (.cells #[.pointer (some ⟨2,272,none⟩),.pointer (some ⟨w.heap.size,0,none⟩),.int .u64 150] 290)).alloc (.cells #[v0,v1] 268)).frozen? ⟨B,1,none⟩=false:=(by rw [World.frozen?_alloc_old _ _ ⟨B,1,none⟩ (by simp;omega),World.frozen?_alloc_old _ _ ⟨B,1,none⟩ (by simp;omega),World.frozen?_alloc_old _ _ ⟨B,1,none⟩ (by simp;omega),World.frozen?_alloc_old _ _ ⟨B,1,none⟩ (Nat.ne_of_lt htl)];exact hf1)
 have st:=set73 B (w.heap.size+1+1+1) v0 v1 o0 o1 ((((w.alloc (.cells #[.pointer (some ⟨B,0,none⟩)] 272)).alloc (.cells #[.pointer (some ⟨2,272,none⟩),.pointer (some ⟨w.heap.size,0,none⟩),.int .u64 150] 290)).alloc (.cells #[.pointer (some ⟨2,272,none⟩),.pointer (some ⟨w.heap.size,0,none⟩),.int .u64 150] 290)).alloc (.cells #[v0,v1] 268))
  (by rw [World.cell?_alloc_at _ _ _ _ (by simp)];rfl)
  (by rw [World.cell?_alloc_at _ _ _ _ (by simp)];rfl)
  (by rw [World.cell?_alloc_lt _ _ ⟨B,0,none⟩ (by simp;omega),World.cell?_alloc_lt _ _ ⟨B,0,none⟩ (by simp;omega),World.cell?_alloc_lt _ _ ⟨B,0,none⟩ (by simp;omega),World.cell?_alloc_lt _ _ ⟨B,0,none⟩ htl];exact ht0)
  (cell_set1 k1)
  (by rw [World.frozen?_alloc_old _ _ ⟨B,0,none⟩ (by simp;omega),World.frozen?_alloc_old _ _ ⟨B,0,none⟩ (by simp;omega),World.frozen?_alloc_old _ _ ⟨B,0,none⟩ (by simp;omega),World.frozen?_alloc_old _ _ ⟨B,0,none⟩ (Nat.ne_of_lt htl)];exact hf0)
  (frozen_set1 q1) c0 c1
 go_enter Tryz.func250,Tryz.ntmps250
 go_wp2
 refine wp_loop_rounds 1 ?_
 rw [rounds_succ]
 go_wp2
 go_ret
 exact⟨rfl,rfl⟩
end Gm.As

namespace Gm.As
open Go Go.Proofs Go.RowKit Go.Extern.Stop Go.Stop Go.Extern
structure Same (B:Nat) (w w':World):Prop where
 cell:∀ a:Addr,a.block < w.heap.size->a.block≠B->w'.cell? a=w.cell? a
 fz:∀ a:Addr,a.block < w.heap.size->w'.frozen? a=w.frozen? a
 size:w.heap.size≤w'.heap.size
 below:∀ M,M≤B->M≤w.heap.size->Below M w w'
theorem Same.refl (B:Nat) (w:World):Same B w w:=⟨fun _ _ _=>rfl,fun _ _=>rfl,Nat.le_refl _,fun _ _ _=>Below.refl _ _⟩
theorem Same.alloc {B:Nat} {a w:World} (h:Same B a w) (o:Obj):Same B a (w.alloc o) where
 cell:=fun x hx hB=>by rw [World.cell?_alloc_lt _ _ x (Nat.lt_of_lt_of_le hx h.size)];exact h.cell x hx hB
 fz:=fun x hx=>by rw [World.frozen?_alloc_old _ _ x (Nat.ne_of_lt (Nat.lt_of_lt_of_le hx h.size))];exact h.fz x hx
 size:=by have:=h.size;simp;omega
 below:=fun M hM hs=>(h.below M hM hs).alloc (Nat.le_trans hs h.size) o
theorem frozen_set {W:World} {p a:Addr} {v:Value}:(W.setCell p v).frozen? a=W.frozen? a:=by
 unfold World.frozen? World.setCell
 by_cases e:p.block=a.block
 ·simp only [Array.getElem?_modify,e,if_true]
  cases hb:W.heap[a.block]? with
  | none=>simp
  | some o=>cases o <;> simp
 ·simp only [Array.getElem?_modify,e,if_false]
theorem Same.set {B:Nat} {a w:World} (h:Same B a w) {p:Addr} (hp:p.block=B) (v:Value):Same B a (w.setCell p v) where
 cell:=fun x hx hB=>by rw [World.cell?_setCell_other _ _ _ _ (fun e=>hB (by rw [← e];exact hp))];exact h.cell x hx hB
 fz:=fun x hx=>by rw [frozen_set];exact h.fz x hx
 size:=by have:=h.size;unfold World.setCell;simpa using this
 below:=fun M hM hs=>(h.below M hM hs).setCell (by omega) v
theorem as73 (B:Nat) (v0 v1 o0 o1:Value) (w:World) (hg:w.cell? ⟨1,0,none⟩=some (.iface 302 (.agg #[.pointer (some ⟨2,233,none⟩)]))) (ht0:w.cell? ⟨B,0,none⟩=some o0) (ht1:w.cell? ⟨B,1,none⟩=some o1)
  (hf0:w.frozen? ⟨B,0,none⟩=false) (hf1:w.frozen? ⟨B,1,none⟩=false) (c0:v0.oneCell'=true) (c1:v1.oneCell'=true) :
  Calls Tryz.prog 250 #[.iface 268 (.agg #[v0,v1]),.iface 272 (.pointer (some ⟨B,0,none⟩))] w fun ev w'=>ev=.returned (.bool true)∧Same B w w'∧w'.cell? ⟨B,1,none⟩=some v1:=by
 refine(as_hit73 B v0 v1 o0 o1 w hg ht0 ht1 hf0 hf1 c0 c1).mono ?_
 rintro ev w' ⟨rfl,rfl⟩
 refine⟨rfl,((((((Same.refl B w).alloc _).alloc _).alloc _).alloc _).set rfl _).set rfl _,?_⟩
 have htl:B < w.heap.size:=by
  rcases Nat.lt_or_ge B w.heap.size with h | h
  ·exact h
  ·simp [World.cell?,Array.getElem?_eq_none h] at ht0
 have h1:=((((Same.refl (B+1) w).alloc (.cells #[.pointer (some ⟨B,0,none⟩)] 272)).alloc (.cells #[.pointer (some ⟨2,272,none⟩),.pointer (some ⟨w.heap.size,0,none⟩),.int .u64 150] 290)).alloc (.cells #[.pointer (some ⟨2,272,none⟩),.pointer (some ⟨w.heap.size,0,none⟩),.int .u64 150] 290)).alloc (.cells #[v0,v1] 268)
 have h2:=cell_set1 (v0:=v0) ((h1.cell ⟨B,1,none⟩ htl (by simp)).trans ht1)
 exact World.cell?_setCell_same _ _ _ h2
theorem as32 (n:Int) (B:Nat) (old:Value) (w:World) (hg:w.cell? ⟨1,0,none⟩=some (.iface 302 (.agg #[.pointer (some ⟨2,233,none⟩)]))) (ht0:w.cell? ⟨B,0,none⟩=some old) (hf0:w.frozen? ⟨B,0,none⟩=false) :
  Calls Tryz.prog 250 #[.iface 55 (.int .i64 n),.iface 273 (.pointer (some ⟨B,0,none⟩))] w fun ev w'=>ev=.returned (.bool true)∧Same B w w'∧w'.cell? ⟨B,0,none⟩=some (.int .i64 n):=by
 refine(as_hit32 n ⟨B,0,none⟩ old w hg ht0 hf0).mono ?_
 rintro ev w' ⟨rfl,rfl⟩
 refine⟨rfl,(((((Same.refl B w).alloc _).alloc _).alloc _).alloc _).set rfl _,?_⟩
 have htl:B < w.heap.size:=by
  rcases Nat.lt_or_ge B w.heap.size with h | h
  ·exact h
  ·simp [World.cell?,Array.getElem?_eq_none h] at ht0
 have h1:=((((Same.refl (B+1) w).alloc (.cells #[.pointer (some ⟨B,0,none⟩)] 273)).alloc (.cells #[.pointer (some ⟨2,273,none⟩),.pointer (some ⟨w.heap.size,0,none⟩),.int .u64 150] 290)).alloc (.cells #[.pointer (some ⟨2,273,none⟩),.pointer (some ⟨w.heap.size,0,none⟩),.int .u64 150] 290)).alloc (.cells #[.int .i64 n] 55)
 exact World.cell?_setCell_same _ _ _ ((h1.cell ⟨B,0,none⟩ htl (by simp)).trans ht0)
theorem code_nil (w:World):Calls Tryz.prog 195 #[.nilIface] w fun ev w'=>ev=.returned (.int .i64 0)∧Below w.heap.size w w':=by
 go_enter Tryz.func195,Tryz.ntmps195
 go_wp2_with (go_at_call 250;refine(as_nil _ _).mono ?_;rintro e w' ⟨rfl,rfl⟩)
 (try simp only [Exit.inBlock,Exit.then])
 refine bodyPost_ret (v:=.int .i64 0) (by simp [results,Tryz.results195,go_sem]) rfl ⟨rfl,?_⟩
 exact((Below.refl w.heap.size w).alloc (Nat.le_refl _) _).alloc (by simp) _
set_option maxRecDepth 100000 in
set_option maxHeartbeats 4000000 in
theorem code_hit (q n:Int) (w:World) (hg:w.cell? ⟨1,0,none⟩=some (.iface 302 (.agg #[.pointer (some ⟨2,233,none⟩)]))) :
  Calls Tryz.prog 195 #[.iface 268 (.agg #[.int .i64 q,.iface 55 (.int .i64 n)])] w fun ev w'=>ev=.returned (.int .i64 n)∧Below w.heap.size w w':=by
 have hlt:1 < w.heap.size:=by
  rcases Nat.lt_or_ge 1 w.heap.size with h | h
  ·exact h
  ·simp [World.cell?,Array.getElem?_eq_none h] at hg
 have S1:=((Same.refl w.heap.size w).alloc (.cells #[.int .i64 0] 55)).alloc (.cells #[.int .i64 0,.nilIface] 268)
 have hgA:=(S1.cell ⟨1,0,none⟩ hlt (by simp;omega)).trans hg
 have b0:((w.alloc (.cells #[.int .i64 0] 55)).alloc (.cells #[.int .i64 0,.nilIface] 268)).cell? ⟨w.heap.size+1,0,none⟩=some (.int .i64 0):=by simp
 have b1:((w.alloc (.cells #[.int .i64 0] 55)).alloc (.cells #[.int .i64 0,.nilIface] 268)).cell? ⟨w.heap.size+1,1,none⟩=some .nilIface:=by simp
 have e0:((w.alloc (.cells #[.int .i64 0] 55)).alloc (.cells #[.int .i64 0,.nilIface] 268)).cell? ⟨w.heap.size,0,none⟩=some (.int .i64 0):=by simp
 have f0:((w.alloc (.cells #[.int .i64 0] 55)).alloc (.cells #[.int .i64 0,.nilIface] 268)).frozen? ⟨w.heap.size+1,0,none⟩=false:=by simp
 have f1:((w.alloc (.cells #[.int .i64 0] 55)).alloc (.cells #[.int .i64 0,.nilIface] 268)).frozen? ⟨w.heap.size+1,1,none⟩=false:=by simp
 have fe:((w.alloc (.cells #[.int .i64 0] 55)).alloc (.cells #[.int .i64 0,.nilIface] 268)).frozen? ⟨w.heap.size,0,none⟩=false:=by simp
 have hsz:((w.alloc (.cells #[.int .i64 0] 55)).alloc (.cells #[.int .i64 0,.nilIface] 268)).heap.size=w.heap.size+2:=by simp
 have A1:=as73 (w.heap.size+1) (.int .i64 q) (.iface 55 (.int .i64 n)) (.int .i64 0) .nilIface _ hgA b0 b1 f0 f1 rfl rfl
 go_enter Tryz.func195,Tryz.ntmps195
 have z1:(⟨1,0,none⟩:Addr).block < ((w.alloc (.cells #[.int .i64 0] 55)).alloc (.cells #[.int .i64 0,.nilIface] 268)).heap.size:=by rw [hsz];show 1 < w.heap.size+2;omega
 have z2:(⟨1,0,none⟩:Addr).block≠w.heap.size+1:=by show(1:Nat)≠w.heap.size+1;omega
 have z3:(⟨w.heap.size,0,none⟩:Addr).block < ((w.alloc (.cells #[.int .i64 0] 55)).alloc (.cells #[.int .i64 0,.nilIface] 268)).heap.size:=by rw [hsz];exact Nat.lt_succ_of_lt (Nat.lt_succ_self _)
 have z4:(⟨w.heap.size,0,none⟩:Addr).block≠w.heap.size+1:=(Nat.succ_ne_self _).symm
 go_wp2_with (first
  | (go_at_call 250;refine(as32 n w.heap.size (.int .i64 0) _ hg2 e2 f2).mono ?_;rintro e w3 ⟨rfl,S3,g3⟩
     have f3:=(S3.fz ⟨w.heap.size,0,none⟩ (Nat.lt_of_lt_of_le z3 S2.size)).trans f2
     have g4:=World.cell?_setCell_same w3 ⟨w.heap.size,0,none⟩ (.int .i64 n) g3)
  | (go_at_call 250;refine A1.mono ?_;rintro e w2 ⟨rfl,S2,g1⟩
     have hg2:=(S2.cell ⟨1,0,none⟩ z1 z2).trans hgA
     have e2:=(S2.cell ⟨w.heap.size,0,none⟩ z3 z4).trans e0
     have f2:=(S2.fz ⟨w.heap.size,0,none⟩ z3).trans fe))
 (try simp only [Exit.inBlock,Exit.then])
 refine bodyPost_ret (v:=.int .i64 n) (by simp [results,Tryz.results195,go_sem,g4]) rfl ⟨rfl,?_⟩
 have r1:Below w.heap.size w ((w.alloc (.cells #[.int .i64 0] 55)).alloc (.cells #[.int .i64 0,.nilIface] 268)):=((Below.refl w.heap.size w).alloc (Nat.le_refl _) _).alloc (by simp) _
 have r2:=S2.below w.heap.size (Nat.le_succ _) (Nat.le_of_lt z3)
 have r3:=S3.below w.heap.size (Nat.le_refl _) (Nat.le_trans (Nat.le_of_lt z3) S2.size)
 exact((r1.trans r2).trans r3).setCell (p:=⟨w.heap.size,0,none⟩) (Nat.le_refl _) _
end Gm.As
namespace Gm
open Go Go.Proofs Go.RowKit
def errE (args:List AV) (K:AV->Prop):Prop:=match args with
 | [.nili]=>K (.int .i64 0)
 | [.iface t (.agg [.int .i64 _,.iface u (.int .i64 n)])]=>bif Nat.beq t 268&&Nat.beq u 55 then K (.int .i64 n)else False
 | _=>False
namespace packet_code
noncomputable def en:Entry:=errE
theorem edet (args:List AV):Det (en args):=by
 intro K h
 unfold en errE at h
 split at h
 ·exact⟨_,h,fun K' hk=>hk⟩
 ·rename_i t q u n
  cases hb:(Nat.beq t 268&&Nat.beq u 55) with
  | false=>rw [hb] at h;exact h.elim
  | true=>
   rw [hb] at h
   refine⟨_,h,fun K' hk=>?_⟩
   unfold en errE
   dsimp only
   rw [hb]
   exact hk
 ·exact h.elim
theorem has:((E.P.funcs[195]?).bind (·.body)).isSome=true:=by kernel_rfl
theorem one {S:Sit} {a:AV} {vs:Array Value} (h:Cs S [a] vs):∃ v,vs = #[v]∧Rv S a v:=by
 obtain ⟨hlen,hr⟩:=h
 obtain ⟨v0,rfl⟩:∃ v0,vs = #[v0]:=by
  obtain ⟨l⟩:=vs
  match l,hlen with
  | [a],_=>exact⟨a,rfl⟩
 exact⟨v0,rfl,hr 0 _ v0 rfl rfl⟩
theorem errV {S:Sit} {t u:Nat} {q n:Int} {v:Value} (h:Rv S (.iface t (.agg [.int .i64 q,.iface u (.int .i64 n)])) v):v=.iface t (.agg #[.int .i64 q,.iface u (.int .i64 n)]):=by
 cases h with
 | iface _ _ v1 r1=>
  cases r1 with
  | agg _ ws hl hr=>
   obtain ⟨l⟩:=ws
   match l,hl with
   | [c0,c1],_=>
    have r0:=hr 0 _ c0 rfl rfl
    have r1:=hr 1 _ c1 rfl rfl
    cases r0
    cases r1 with
    | iface _ _ v2 r2=>
     cases r2
     rfl
set_option maxRecDepth 100000 in
theorem sound:EntrySound E 195 en:=by
 refine⟨callable_of num has,?_⟩
 intro args K hK S vs hF hv hc
 have fin:∀ n:Int,K (.int .i64 n)->Calls E.P 195 vs S.w (fun ev w'=>ev=.returned (.int .i64 n)∧Below S.w.heap.size S.w w')->
   Calls E.P 195 vs S.w (fun e w'=>∃ v a T,e=.returned v∧T.w=w'∧Ext S T∧Rv T a v∧K a):=by
  intro n hk h
  refine h.mono ?_
  rintro e w' ⟨rfl,hB⟩
  have hX:Ext S { S with w:=w' }:={
   le:=⟨fun B o h=>h,fun B o u h hcell=>by
    rw [cell_at] at hcell ⊢
    have:=hB.block B (hF B o h)
    show(match w'.heap[B]? with | some (.cells c _ _)=>c[o]? | _=>none)=some u
    rw [this];exact hcell,fun _ _=>rfl,Nat.le_refl _⟩
   G:=rfl
   N:=rfl
   os:=hB.os
   tape:=hB.tape
   output:=hB.output
   size:=hB.size
   old:=fun B h=>hB.block B h
   F:=fun B o h=>.inl h }
  exact⟨_,.int .i64 n,{ S with w:=w' },rfl,rfl,hX,.int _ _,hk⟩
 unfold en errE at hK
 split at hK
 ·obtain ⟨v,rfl,rv⟩:=one hc
  cases rv
  exact fin 0 hK (As.code_nil S.w)
 ·rename_i t q u n
  cases hb:(Nat.beq t 268&&Nat.beq u 55) with
  | false=>rw [hb] at hK;exact hK.elim
  | true=>
   rw [hb] at hK
   simp only [Bool.and_eq_true] at hb
   have h1:=Nat.eq_of_beq_eq_true hb.1
   have h2:=Nat.eq_of_beq_eq_true hb.2
   subst h1
   subst h2
   obtain ⟨v,rfl,rv⟩:=one hc
   cases errV rv
   exact fin n hK (As.code_hit q n S.w hv.1)
 ·exact hK.elim
end packet_code
end Gm
