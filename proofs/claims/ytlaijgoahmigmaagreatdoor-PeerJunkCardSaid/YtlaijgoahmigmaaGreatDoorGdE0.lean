/- The program as the machine sees it. -/
import Derived.Test.YtlaijgoahmigmaaGreatDoorProg
import Derived.KernelRfl
import Derived.Shelf.Spec.TrailingZeros
import Derived.Test.YtlaijgoahmigmaaGreatDoorGmCl
set_option maxRecDepth 100000
namespace Gm
open Go Go.Proofs
def tyT (t:Nat):Option Ty:=lookL none [(22,some (.slice (.st 12))),(27,some (.slice .str)),(28,some (.slice (.st 0))),(44,some (.slice (.int .u64))),(45,some (.slice (.st 10))),(49,some (.slice (.int .i64))),(52,some (.slice (.st 11))),(59,some (.slice .bool)),(202,some (.slice (.int .u8))),(220,some (.slice (.int .u32)))] t
noncomputable def E0:Env:={ P:=Tryz.prog,ty:=tyT,clone:=fun _=>none }
theorem clone0:CloneSound E0:=fun _ _ _ h=>by cases h
theorem mixed0:E0.P.follows .mixedOrders=true:=by kernel_rfl
theorem num0:NoNum E0.P:=nonum_of (by kernel_rfl)
theorem c214_1 (xs:List ((.st 0):Ty).den) (K:AV->HS->Prop):afun E0 [] 1 true 214 [.sl .nn (.st 0) xs] hs0 K=(bif decide (xs.length * 24≤room)then K (.slr 1) (hsC (.st 0) xs)else False):=by kernel_rfl
theorem c214_2 (K:AV->HS->Prop):afun E0 [] 1 true 214 [.snil] hs0 K=(bif decide (([]:List ((.st 0):Ty).den).length * 24≤room)then K (.slr 1) (hsC (.st 0) [])else False):=by kernel_rfl
theorem c258_1 (xs:List (.str:Ty).den) (K:AV->HS->Prop):afun E0 [] 1 true 258 [.sl .nn .str xs] hs0 K=(bif decide (xs.length * 16≤room)then K (.slr 1) (hsC .str xs)else False):=by kernel_rfl
theorem c258_2 (K:AV->HS->Prop):afun E0 [] 1 true 258 [.snil] hs0 K=(bif decide (([]:List (.str:Ty).den).length * 16≤room)then K (.slr 1) (hsC .str [])else False):=by kernel_rfl
def cloneT (f:Nat):Option (Ty×Nat):=lookL none [(214,some ((.st 0),24)),(258,some (.str,16))] f
def cpT (d:Option Nat) (t:Nat):Bool:=match d with
 | some d=>(Nat.beq d 25&&Nat.beq t 27)
 | none=>false
def hasVar (w:World):Prop:=w.cell? ⟨1,0,none⟩=some (.iface 302 (.agg #[.pointer (some ⟨2,233,none⟩)]))
def hasTab (w:World):Prop:=Go.Proofs.TabAt 0 Lib.deBruijn32tab w
noncomputable def E:Env:={ P:=Tryz.prog,ty:=tyT,clone:=cloneT,cp:=cpT,V:=fun w=>hasVar w∧hasTab w,ro:=fun f=>Nat.beq f 56 }
theorem cell_stays {w w':World} {g j:Nat} {v:Value} (hb:∀ B,B < w.heap.size->w'.heap[B]? = w.heap[B]?) (h:w.cell? ⟨g,j,none⟩=some v):w'.cell? ⟨g,j,none⟩=some v:=by
 have hlt:g < w.heap.size:=by
  rcases Nat.lt_or_ge g w.heap.size with h0 | h0
  ·exact h0
  ·simp [World.cell?,Array.getElem?_eq_none h0] at h
 rw [← h]
 simp only [World.cell?,hb g hlt]
theorem stab:Stable E.V:=fun _ w' h hb=>⟨(show hasVar w' from cell_stays hb h.1),fun j hj=>cell_stays hb (h.2 j hj)⟩
theorem clone:CloneSound E:=by
 intro f t w h
 change cloneT f=some (t,w) at h
 unfold cloneT lookL at h
 cases hb214:Nat.beq f 214 with
 | true=>
  rw [hb214] at h
  cases Nat.eq_of_beq_eq_true hb214
  simp only [cond_true,Option.some.injEq,Prod.mk.injEq] at h
  obtain ⟨rfl,rfl⟩:=h
  exact clone_of (E0:=E0) flat_write clone0 num0 mixed0 c214_1 c214_2
 | false=>
  rw [hb214] at h
  simp only [cond_false,lookL] at h
  cases hb258:Nat.beq f 258 with
  | true=>
   rw [hb258] at h
   cases Nat.eq_of_beq_eq_true hb258
   simp only [cond_true,Option.some.injEq,Prod.mk.injEq] at h
   obtain ⟨rfl,rfl⟩:=h
   exact clone_of (E0:=E0) flat_str clone0 num0 mixed0 c258_1 c258_2
  | false=>
   rw [hb258] at h
   simp only [cond_false] at h
   cases h
theorem mixed:E.P.follows .mixedOrders=true:=mixed0
theorem num:NoNum E.P:=num0
theorem gnd {tab:Tab} (a:TabSound E tab) (b:TabDet (detT E tab)):Ground E tab:=⟨num,mixed,a,clone,b,stab⟩
end Gm
