/- Entries: functions that get and answer values. -/
import Derived.Test.YtbhgalddlkebgaaDoorGmZ4
namespace Gm
open Go

/-- How answers are read: as values of a Lean type. -/
structure Cod (α : Type) where
  dec : AV → Option α
  enc : α → (AV → Prop) → Prop
  ok : ∀ a x, dec a = some x → ∀ K, enc x K → ∃ b, K b ∧ Closed b ∧ ∀ S v, Rv S a v → Rv S b v
  det : ∀ x, Det (enc x)

def cTy (t : Ty) : Cod t.den where
  dec := dec t
  enc x K := K (enc t x)
  ok _ x h _ k := ⟨_, k, enc_closed' t x, fun _ _ r => r.dec h⟩
  det _ := det_ret _

/-- An answer that says nothing. -/
def cUnit : Cod Unit where
  dec
    | .tup [] => some ()
    | _ => none
  enc _ K := K (.tup [])
  ok a _ h K k := by
    split at h
    · exact ⟨_, k, .tup _ (fun c h => by cases h), fun _ _ r => r⟩
    · cases h
  det x := det_ret _

/-- Two answers. -/
def cTwo (s t : Ty) : Cod (s.den × t.den) where
  dec
    | .tup [a, b] => match dec s a, dec t b with
      | some x, some y => some (x, y)
      | _, _ => none
    | _ => none
  enc x K := K (.tup [enc s x.1, enc t x.2])
  ok a x h K k := by
    split at h
    · rename_i a b
      split at h
      · rename_i x y hx hy
        cases h
        refine ⟨_, k, .tup _ (fun c hc => ?_), fun S v r => ?_⟩
        · rcases List.mem_cons.1 hc with rfl | hc
          · exact enc_closed' _ _
          · rcases List.mem_cons.1 hc with rfl | hc
            · exact enc_closed' _ _
            · cases hc
        · cases r with
          | tup _ vs e hr =>
            refine .tup _ vs e ?_
            intro i c v hc hv
            match i with
            | 0 => cases hc; exact (hr 0 a v rfl hv).dec hx
            | 1 => cases hc; exact (hr 1 b v rfl hv).dec hy
      · cases h
    · cases h
  det x := det_ret _

def Dens : List Ty → Type
  | [] => Unit
  | t :: r => t.den × Dens r
def encA : (ts : List Ty) → Dens ts → List AV
  | [], _ => []
  | t :: r, x => enc t x.1 :: encA r x.2
def decA : (ts : List Ty) → List AV → Option (Dens ts)
  | [], [] => some ()
  | t :: r, a :: as => match dec t a, decA r as with
    | some x, some y => some (x, y)
    | _, _ => none
  | _, _ => none

theorem decA_ok : ∀ {ts : List Ty} {as : List AV} {x : Dens ts}, decA ts as = some x → (encA ts x).length = as.length ∧ ∀ (i : Nat) a, as[i]? = some a → ∃ b, (encA ts x)[i]? = some b ∧ Closed b ∧ ∀ S v, Rv S a v → Rv S b v
  | [], [], _, _ => ⟨rfl, fun i a h => by simp at h⟩
  | t :: r, a :: as, x, h => by
    unfold decA at h
    split at h
    · rename_i y z hy hz
      cases h
      obtain ⟨h1, h2⟩ := decA_ok hz
      refine ⟨by simp [encA, h1], ?_⟩
      intro i b hb
      cases i with
      | zero => simp at hb; subst hb; exact ⟨_, rfl, enc_closed' _ _, fun _ _ r => r.dec hy⟩
      | succ i => exact h2 i b (by simpa using hb)
    · cases h
  | [], _ :: _, _, h => by cases h
  | _ :: _, [], _, h => by cases h

def mkEntry {β : Type} (ts : List Ty) (cod : Cod β) (F : Dens ts → (β → Prop) → Prop) : Entry := fun args K => match decA ts args with
  | some x => F x fun r => cod.enc r K
  | none => False

theorem mkEntry_det {β : Type} {ts : List Ty} {cod : Cod β} {F : Dens ts → (β → Prop) → Prop} (h : ∀ x, Det (F x)) (args : List AV) : Det (mkEntry ts cod F args) := by
  unfold mkEntry
  cases decA ts args with
  | none => exact det_false
  | some x => exact det_bind (h x) (fun r => cod.det r)

def LoopsOk (E : Env) (tab : Tab) (lt : Nat → Option LSpec) (d : Nat) (f : FuncId) : Prop :=
  ∀ (fn : Func) (c : Code), E.P.funcs[f]? = some fn → fn.body = some c → ∀ p ∈ loopsOf c 0, ∀ l, lt p.1 = some l → LSound E tab (afun E tab d) fn.ntmps lt p.1 p.2 l

theorem loops_none (E : Env) (tab : Tab) (d : Nat) (f : FuncId) : LoopsOk E tab (fun _ => none) d f := fun _ _ _ _ _ _ _ h => by cases h

/-- What hangs on the blocks that are there alone. -/
def Stable (V : World → Prop) : Prop := ∀ w w', V w → (∀ B, B < w.heap.size → w'.heap[B]? = w.heap[B]?) → V w'

theorem TabSound.here {E : Env} {tab : Tab} (h : TabSound E tab) (st : Stable E.V) {w0 : World} {F : Nat → Nat → Prop} (hv : E.V w0) : TabAt E.P w0 ⟨fun _ => False, F⟩ tab :=
  fun f en he => ⟨(h f en he).1, fun args K hK S vs hr hc => by
    obtain ⟨hs, r⟩ := hr
    exact (h f en he).2 args K hK S vs r.F (st w0 S.w hv (fun B hB => r.old B hB (fun h => h))) hc⟩

/-- What a run of a function needs. -/
structure Ground (E : Env) (tab : Tab) : Prop where
  num : NoNum E.P
  mixed : E.P.follows .mixedOrders = true
  sound : TabSound E tab
  clone : CloneSound E
  det : TabDet tab
  stab : Stable E.V

def fresh (S : Sit) : Sit := { w := S.w, F := S.F, G := fun _ => ⟨none, 0, 0, 0⟩, N := 0 }

theorem fresh_rh {S : Sit} (hF : ∀ B o, S.F B o → B < S.w.heap.size) : RH S.w ⟨fun _ => False, S.F⟩ (fresh S) hs0 where
  N := rfl
  dead := fun _ _ => rfl
  blks := fun _ => trivial
  inj := fun _ _ _ _ h => absurd rfl h
  F := hF
  os := rfl
  tape := rfl
  output := rfl
  size := Nat.le_refl _
  old := fun _ _ _ => rfl
  own := fun _ _ h => absurd rfl h
  fo := fun _ _ h _ _ => h

theorem apure_calls {E : Env} {tab : Tab} {lt : Nat → Option LSpec} {d : Nat} {f : FuncId} {args : List AV} {K : AV → Prop} (g : Ground E tab) (hl : LoopsOk E tab lt d f)
    (h : apure E tab lt d f args K) : Callable E.P f ∧ ∀ (S : Sit) (vs : Array Value), (∀ B o, S.F B o → B < S.w.heap.size) → E.V S.w → Cs (fresh S) args vs →
      Calls E.P f vs S.w (fun e w' => ∃ v a T, e = .returned v ∧ T.w = w' ∧ Rv T a v ∧ K a ∧ ∀ b, Closed b → (∀ S v, Rv S a v → Rv S b v) → ∃ U, U.w = w' ∧ Ext S U ∧ Rv U b v) := by
  unfold apure at h
  split at h
  · rename_i fn hf
    split at h
    · rename_i c hb
      cases hn : Nat.ble args.length fn.ntmps with
      | false => rw [hn] at h; exact h.elim
      | true =>
        rw [hn] at h
        refine ⟨callable g.num hf hb, fun S vs hF hv hc => ?_⟩
        have r0 := fresh_rh hF
        have hT := g.sound.here g.stab (F := S.F) hv
        refine (calls_code g.mixed hT (afun_sound g.num g.mixed hT g.clone g.det d) g.clone g.det (afun_det g.det d) (.inl rfl) (hl fn c hf hb) hf hb r0 hc h).mono ?_
        rintro e w' ⟨v, a, T, hs', rfl, rfl, h1, h2, h3, h4⟩
        obtain ⟨U, u1, u2, u3, u4⟩ := roAll_ok (slrs a) T hs' h2
        have h5 : Rv U (Gm.frz hs'.hp a) v := frz_ok u1 u4 (fun _ h => h) h3
        refine ⟨v, _, U, rfl, u2, h5, h4, ?_⟩
        intro b hcb hw
        have h6 := hw U v h5
        have hX : Ext S { w := T.w, F := U.F, G := S.G, N := S.N } := {
          le := ⟨fun B o h => u1.F B o (h1.F B o h), fun B o v hF hc => by
            have := u1.cell B o v (h1.F B o hF) (h1.cell B o v hF hc)
            rw [u2] at this
            exact this, fun _ _ => rfl, Nat.le_refl _⟩
          G := rfl
          N := rfl
          os := h2.os
          tape := h2.tape
          output := h2.output
          size := h2.size
          old := fun B hB => h2.old B hB (fun h => h)
          F := fun B o h => by
            have h7 := u3.F B o h
            rw [u2] at h7
            by_cases hB : B < S.w.heap.size
            · exact .inl (u3.fo B o h hB (fun h => h))
            · exact .inr ⟨by omega, h7⟩ }
        exact ⟨{ w := T.w, F := U.F, G := S.G, N := S.N }, rfl, hX, Rv.closed (S := U) (T := { w := T.w, F := U.F, G := S.G, N := S.N }) ⟨fun _ _ h => h, fun B o v _ hc => by rw [u2] at hc; exact hc⟩ h6 hcb⟩
    · exact h.elim
  · exact h.elim

theorem mkEntry_sound {E : Env} {tab : Tab} {lt : Nat → Option LSpec} {d : Nat} {f : FuncId} {β : Type} {ts : List Ty} {cod : Cod β} {F : Dens ts → (β → Prop) → Prop} (g : Ground E tab) (hl : LoopsOk E tab lt d f)
    (hcall : Callable E.P f) (h : ∀ x K, F x K → apure E tab lt d f (encA ts x) (fun v => match cod.dec v with | some r => K r | none => False)) : EntrySound E f (mkEntry ts cod F) := by
  refine ⟨hcall, ?_⟩
  intro args K hK S vs hF hv hc
  unfold mkEntry at hK
  split at hK
  · rename_i x hx
    obtain ⟨h1, h2⟩ := decA_ok hx
    have hc' : Cs (fresh S) (encA ts x) vs := by
      refine ⟨h1.trans hc.1, ?_⟩
      intro i b v hb hv
      have hi : i < vs.size := (Array.getElem?_eq_some_iff.1 hv).1
      have ha : args[i]? = some (args[i]'(by have := hc.1; omega)) := List.getElem?_eq_getElem _
      obtain ⟨b', hb', hcl, hw⟩ := h2 i _ ha
      rw [hb] at hb'
      cases hb'
      exact Rv.closed (S := S) (T := fresh S) ⟨fun _ _ h => h, fun _ _ _ _ h => h⟩ (hw S v (hc.2 i _ v ha hv)) hcl
    refine ((apure_calls g hl (h x _ hK)).2 S vs hF hv hc').mono ?_
    rintro e w' ⟨v, a, T, rfl, hw, hr, hk, hb⟩
    split at hk
    · rename_i r hdec
      obtain ⟨b, k1, k2, k3⟩ := cod.ok a r hdec K hk
      obtain ⟨U, u1, u2, u3⟩ := hb b k2 k3
      exact ⟨v, b, U, rfl, u1, u2, u3, k1⟩
    · exact hk.elim
  · exact hK.elim

/-- A loop, round by round. -/
def loopB {α β : Type} (B : (α → Prop) → (α → Prop) → (β → Prop) → α → Prop) : Nat → (α → Prop) → (β → Prop) → α → Prop
  | 0, _, _, _ => False
  | n + 1, kx, kr, x => B (loopB B n kx kr) kx kr x

def mkLoop {α β : Type} (i : Nat) (kp kr : Keep) (pick : St → (α → Prop) → Prop) (canon : α → St) (canonR : β → St) (B : (α → Prop) → (α → Prop) → (β → Prop) → α → Prop) : LSpec :=
  ⟨kp, kr, fun Kx Kr st => pick st fun x => ∃ n, loopB B n (fun x => Kx i (canon x)) (fun r => Kr (canonR r)) x⟩

theorem mkLoop_sound {E : Env} {tab : Tab} {cal : Callee} {nt : Nat} {lt : Nat → Option LSpec} {i : Nat} {b : Code} {α β : Type} {kp kr : Keep} {pick : St → (α → Prop) → Prop} {canon : α → St} {canonR : β → St}
    {B : (α → Prop) → (α → Prop) → (β → Prop) → α → Prop} (ok : keepOk kp = true) (okr : keepOk kr = true) (hp : ∀ st K, pick st K → ∃ x, keepSt kp st = canon x ∧ K x)
    (hstep : ∀ (R : St → Prop) (Kx : Nat → St → Prop) (Kr : St → Prop) (x : α), acode E tab cal nt lt b i (fun s => R (keepSt kp s)) (fun j s => Kx j (keepSt kp s)) (fun s => Kr (keepSt kr s)) (canon x) =
      B (fun x => R (canon x)) (fun x => Kx i (canon x)) (fun r => Kr (canonR r)) x) :
    LSound E tab cal nt lt i b (mkLoop i kp kr pick canon canonR B) := by
  refine ⟨ok, okr, ?_⟩
  intro Kx Kr st h
  obtain ⟨x, h1, n, h2⟩ := hp st _ h
  refine ⟨n, ?_⟩
  unfold loopSem
  rw [show keepSt (mkLoop i kp kr pick canon canonR B).kp st = canon x from h1]
  have key : ∀ n, loopB B n (fun x => Kx i (canon x)) (fun r => Kr (canonR r)) = fun x => loopN n (fun rec s => acode E tab cal nt lt b i (fun s' => rec (keepSt kp s')) (fun j s' => Kx j (keepSt kp s')) (fun s' => Kr (keepSt kr s')) s) (canon x) := by
    intro n
    induction n with
    | zero => rfl
    | succ n ih =>
      funext x
      show B (loopB B n _ _) _ _ x = acode E tab cal nt lt b i (fun s => loopN n _ (keepSt kp s)) (fun j s => Kx j (keepSt kp s)) (fun s => Kr (keepSt kr s)) (canon x)
      rw [hstep, ih]
  have h3 := congrFun (key n) x
  rw [h3] at h2
  exact h2

end Gm

/- Words for the printed texts. -/
namespace Gm
open Go

def oget {α : Type} (x : Option α) (K : α → Prop) : Prop := match x with
  | some v => K v
  | none => False

def gInt (k : IntKind) (v : AV) (K : Int → Prop) : Prop := match v with
  | .int k' n => if k' = k then K n else False
  | _ => False
def gBool (v : AV) (K : Bool → Prop) : Prop := match v with
  | .bool b => K b
  | _ => False
def gStr (v : AV) (K : Str → Prop) : Prop := match v with
  | .str b => K b
  | _ => False
def gSl (f : SF) (t : Ty) (v : AV) (K : List t.den → Prop) : Prop := match f, v with
  | .any, .sl .any t' xs => if h : t' = t then K (h ▸ xs) else False
  | .full, .sl .full t' xs => if h : t' = t then K (h ▸ xs) else False
  | .nn, .sl .nn t' xs => if h : t' = t then K (h ▸ xs) else False
  | _, _ => False
def gAgg (v : AV) (K : List AV → Prop) : Prop := match v with
  | .agg cs => K cs
  | _ => False
def gTup (v : AV) (K : List AV → Prop) : Prop := match v with
  | .tup cs => K cs
  | _ => False
def gIface (t : Nat) (v : AV) (K : AV → Prop) : Prop := match v with
  | .iface t' a => bif Nat.beq t' t then K a else False
  | _ => False
def gPtr (b o : Nat) (v : AV) (K : Prop) : Prop := match v with
  | .ptr b' o' => bif Nat.beq b' b && Nat.beq o' o then K else False
  | _ => False
def gSlrAt (b : Nat) (v : AV) (K : Prop) : Prop := match v with
  | .slr b' => bif Nat.beq b' b then K else False
  | _ => False
def gNilp (v : AV) (K : Prop) : Prop := match v with
  | .nilp => K
  | _ => False
def gSnil (v : AV) (K : Prop) : Prop := match v with
  | .snil => K
  | _ => False
def gNilf (v : AV) (K : Prop) : Prop := match v with
  | .nilf => K
  | _ => False
def gNili (v : AV) (K : Prop) : Prop := match v with
  | .nili => K
  | _ => False
def gTop (v : AV) (K : Prop) : Prop := match v with
  | .top => K
  | _ => False
def gFunc (f : Nat) (v : AV) (K : List AV → List AV → Prop) : Prop := match v with
  | .func f' p q => bif Nat.beq f' f then K p q else False
  | _ => False
def gFptr (o : Nat) (v : AV) (K : List AV → Prop) : Prop := match v with
  | .fptr cs o' => bif Nat.beq o' o then K cs else False
  | _ => False
def gSlr (v : AV) (K : Nat → Prop) : Prop := match v with
  | .slr b => K b
  | _ => False
def gRow (ro : Bool) (t : Ty) (k : Blk) (K : List t.den → Prop) : Prop := match k with
  | .row ro' t' xs => bif ro' == ro then (if h : t' = t then K (h ▸ xs) else False) else False
  | _ => False
def gCells (k : Blk) (K : List AV → Prop) : Prop := match k with
  | .cells cs => K cs
  | _ => False
def gDead (k : Blk) (K : Prop) : Prop := match k with
  | .dead => K
  | _ => False
def gCons (l : List AV) (K : AV → List AV → Prop) : Prop := match l with
  | a :: r => K a r
  | [] => False
def gNil (l : List AV) (K : Prop) : Prop := match l with
  | [] => K
  | _ :: _ => False
def gHomes (kp : Keep) (st : St) (K : Prop) : Prop := bif homesOk kp (hmOf kp st) then K else False

theorem gInt_elim {k : IntKind} {v : AV} {K : Int → Prop} (h : gInt k v K) : ∃ n, v = .int k n ∧ K n := by
  cases v <;> first | exact h.elim | skip
  rename_i k' n
  change (if k' = k then K n else False) at h
  split at h
  · rename_i e; subst e; exact ⟨_, rfl, h⟩
  · exact h.elim
theorem gBool_elim {v : AV} {K : Bool → Prop} (h : gBool v K) : ∃ n, v = .bool n ∧ K n := by
  cases v <;> first | exact h.elim | exact ⟨_, rfl, h⟩
theorem gStr_elim {v : AV} {K : Str → Prop} (h : gStr v K) : ∃ n, v = .str n ∧ K n := by
  cases v <;> first | exact h.elim | exact ⟨_, rfl, h⟩
theorem gSl_elim {f : SF} {t : Ty} {v : AV} {K : List t.den → Prop} (h : gSl f t v K) : ∃ xs, v = .sl f t xs ∧ K xs := by
  cases f <;> cases v <;> first | exact h.elim | skip
  all_goals (rename_i g t' xs; cases g <;> first | exact h.elim | skip)
  all_goals
    change (if h : t' = t then K (h ▸ xs) else False) at h
    split at h
    · rename_i e; subst e; exact ⟨_, rfl, h⟩
    · exact h.elim
theorem gAgg_elim {v : AV} {K : List AV → Prop} (h : gAgg v K) : ∃ n, v = .agg n ∧ K n := by
  cases v <;> first | exact h.elim | exact ⟨_, rfl, h⟩
theorem gTup_elim {v : AV} {K : List AV → Prop} (h : gTup v K) : ∃ n, v = .tup n ∧ K n := by
  cases v <;> first | exact h.elim | exact ⟨_, rfl, h⟩
theorem gIface_elim {t : Nat} {v : AV} {K : AV → Prop} (h : gIface t v K) : ∃ a, v = .iface t a ∧ K a := by
  cases v <;> first | exact h.elim | skip
  rename_i t' a
  change (bif Nat.beq t' t then K a else False) at h
  cases e : Nat.beq t' t with
  | false => rw [e] at h; exact h.elim
  | true => rw [e] at h; cases Nat.eq_of_beq_eq_true e; exact ⟨_, rfl, h⟩
theorem gPtr_elim {b o : Nat} {v : AV} {K : Prop} (h : gPtr b o v K) : v = .ptr b o ∧ K := by
  cases v <;> first | exact h.elim | skip
  rename_i b' o'
  change (bif Nat.beq b' b && Nat.beq o' o then K else False) at h
  cases e : Nat.beq b' b with
  | false => rw [e] at h; exact h.elim
  | true =>
    cases e2 : Nat.beq o' o with
    | false => rw [e, e2] at h; exact h.elim
    | true => rw [e, e2] at h; cases Nat.eq_of_beq_eq_true e; cases Nat.eq_of_beq_eq_true e2; exact ⟨rfl, h⟩
theorem gSlrAt_elim {b : Nat} {v : AV} {K : Prop} (h : gSlrAt b v K) : v = .slr b ∧ K := by
  cases v <;> first | exact h.elim | skip
  rename_i b'
  change (bif Nat.beq b' b then K else False) at h
  cases e : Nat.beq b' b with
  | false => rw [e] at h; exact h.elim
  | true => rw [e] at h; cases Nat.eq_of_beq_eq_true e; exact ⟨rfl, h⟩
theorem gNilp_elim {v : AV} {K : Prop} (h : gNilp v K) : v = .nilp ∧ K := by
  cases v <;> first | exact h.elim | exact ⟨rfl, h⟩
theorem gSnil_elim {v : AV} {K : Prop} (h : gSnil v K) : v = .snil ∧ K := by
  cases v <;> first | exact h.elim | exact ⟨rfl, h⟩
theorem gNilf_elim {v : AV} {K : Prop} (h : gNilf v K) : v = .nilf ∧ K := by
  cases v <;> first | exact h.elim | exact ⟨rfl, h⟩
theorem gNili_elim {v : AV} {K : Prop} (h : gNili v K) : v = .nili ∧ K := by
  cases v <;> first | exact h.elim | exact ⟨rfl, h⟩
theorem gTop_elim {v : AV} {K : Prop} (h : gTop v K) : v = .top ∧ K := by
  cases v <;> first | exact h.elim | exact ⟨rfl, h⟩
theorem gFunc_elim {f : Nat} {v : AV} {K : List AV → List AV → Prop} (h : gFunc f v K) : ∃ p q, v = .func f p q ∧ K p q := by
  cases v <;> first | exact h.elim | skip
  rename_i f' p q
  change (bif Nat.beq f' f then K p q else False) at h
  cases e : Nat.beq f' f with
  | false => rw [e] at h; exact h.elim
  | true => rw [e] at h; cases Nat.eq_of_beq_eq_true e; exact ⟨_, _, rfl, h⟩
theorem gFptr_elim {o : Nat} {v : AV} {K : List AV → Prop} (h : gFptr o v K) : ∃ cs, v = .fptr cs o ∧ K cs := by
  cases v <;> first | exact h.elim | skip
  rename_i cs o'
  change (bif Nat.beq o' o then K cs else False) at h
  cases e : Nat.beq o' o with
  | false => rw [e] at h; exact h.elim
  | true => rw [e] at h; cases Nat.eq_of_beq_eq_true e; exact ⟨_, rfl, h⟩
theorem gSlr_elim {v : AV} {K : Nat → Prop} (h : gSlr v K) : ∃ b, v = .slr b ∧ K b := by
  cases v <;> first | exact h.elim | exact ⟨_, rfl, h⟩
theorem gRow_elim {ro : Bool} {t : Ty} {k : Blk} {K : List t.den → Prop} (h : gRow ro t k K) : ∃ xs, k = .row ro t xs ∧ K xs := by
  cases k <;> first | exact h.elim | skip
  rename_i ro' t' xs
  change (bif ro' == ro then (if h : t' = t then K (h ▸ xs) else False) else False) at h
  cases e : ro' == ro with
  | false => rw [e] at h; exact h.elim
  | true =>
    rw [e] at h
    have e2 : ro' = ro := by simpa using e
    subst e2
    simp only [cond_true] at h
    split at h
    · rename_i e3; subst e3; exact ⟨_, rfl, h⟩
    · exact h.elim
theorem gCells_elim {k : Blk} {K : List AV → Prop} (h : gCells k K) : ∃ cs, k = .cells cs ∧ K cs := by
  cases k <;> first | exact h.elim | exact ⟨_, rfl, h⟩
theorem gDead_elim {k : Blk} {K : Prop} (h : gDead k K) : k = .dead ∧ K := by
  cases k <;> first | exact h.elim | exact ⟨rfl, h⟩
theorem gCons_elim {l : List AV} {K : AV → List AV → Prop} (h : gCons l K) : ∃ a r, l = a :: r ∧ K a r := by
  cases l <;> first | exact h.elim | exact ⟨_, _, rfl, h⟩
theorem gNil_elim {l : List AV} {K : Prop} (h : gNil l K) : l = [] ∧ K := by
  cases l <;> first | exact h.elim | exact ⟨rfl, h⟩
theorem gHomes_elim {kp : Keep} {st : St} {K : Prop} (h : gHomes kp st K) : homesOk kp (hmOf kp st) = true ∧ K := by
  unfold gHomes at h
  cases e : homesOk kp (hmOf kp st) with
  | false => rw [e] at h; exact h.elim
  | true => rw [e] at h; exact ⟨rfl, h⟩

theorem loops_of {E : Env} {tab : Tab} {lt : Nat → Option LSpec} {d f nt : Nat} {ids : List Nat} (hn : (E.P.funcs[f]?).map (·.ntmps) = some nt) (hids : (loopsIn E.P f).map (·.1) = ids)
    (h : ∀ k i, ids[k]? = some i → ∀ l, lt i = some l → LSound E tab (afun E tab d) nt lt i ((loopsIn E.P f).getD k (0, .skip)).2 l) : LoopsOk E tab lt d f := by
  intro fn c hf hb p hp l hl
  have e1 : fn.ntmps = nt := by rw [hf] at hn; simpa using hn
  have e2 : loopsIn E.P f = loopsOf c 0 := by unfold loopsIn; rw [hf]; simp only; rw [hb]
  obtain ⟨k, hk, he⟩ := List.mem_iff_getElem.1 hp
  have h1 : ids[k]? = some p.1 := by rw [← hids, e2, List.getElem?_map, List.getElem?_eq_getElem hk, he]; rfl
  have h2 := h k p.1 h1 l hl
  rw [e2, List.getD_eq_getElem?_getD, List.getElem?_eq_getElem hk] at h2
  simp only [Option.getD_some, he] at h2
  rw [e1]
  exact h2

theorem nonum_of {P : Program} (h : (P.funcs.toList.all fun fn => !(fn.name == "runtime.NumGoroutine")) = true) : NoNum P := by
  intro f fn hf
  have hm : fn ∈ P.funcs.toList := Array.mem_toList_iff.2 (Array.mem_of_getElem? hf)
  have := List.all_eq_true.1 h fn hm
  simpa using this

theorem tab_nil (E : Env) : TabSound E [] := fun _ _ h => by cases h
theorem tab_cons {E : Env} {f : Nat} {en : Entry} {r : Tab} (h : EntrySound E f en) (hr : TabSound E r) : TabSound E ((f, en) :: r) := by
  intro g e he
  unfold tabGet at he
  cases hb : Nat.beq f g with
  | true => rw [hb] at he; cases he; cases Nat.eq_of_beq_eq_true hb; exact h
  | false => rw [hb] at he; exact hr g e he
theorem dtab_nil : TabDet [] := fun _ _ h => by cases h
theorem dtab_cons {f : Nat} {en : Entry} {r : Tab} (h : ∀ args, Det (en args)) (hr : TabDet r) : TabDet ((f, en) :: r) := by
  intro g e he
  unfold tabGet at he
  cases hb : Nat.beq f g with
  | true => rw [hb] at he; cases he; exact h
  | false => rw [hb] at he; exact hr g e he

theorem det_oget {α β : Type} (x : Option α) {T : α → (β → Prop) → Prop} (hT : ∀ v, Det (T v)) : Det (fun K => oget x fun v => T v K) := by
  cases x
  · exact det_false
  · exact hT _

theorem det_loop {α β γ : Type} {B : (α → Prop) → (α → Prop) → (β → Prop) → α → Prop} {X : α → (γ → Prop) → Prop} {R : β → (γ → Prop) → Prop}
    (hB : ∀ x, Det (fun K : α ⊕ α ⊕ β → Prop => B (fun y => K (.inl y)) (fun y => K (.inr (.inl y))) (fun r => K (.inr (.inr r))) x))
    (hX : ∀ x, Det (X x)) (hR : ∀ r, Det (R r)) (x0 : α) : Det (fun K => ∃ n, loopB B n (fun x => X x K) (fun r => R r K) x0) := by
  have key : ∀ n x K, loopB B n (fun x => X x K) (fun r => R r K) x → ∃ v, K v ∧ ∀ K', K' v → loopB B n (fun x => X x K') (fun r => R r K') x := by
    intro n
    induction n with
    | zero => intro x K h; exact h.elim
    | succ n ih =>
      intro x K h
      obtain ⟨o, h1, h2⟩ := hB x (fun o => match o with
        | .inl y => loopB B n (fun x => X x K) (fun r => R r K) y
        | .inr (.inl y) => X y K
        | .inr (.inr r) => R r K) h
      match o, h1, h2 with
      | .inl y, h1, h2 =>
        obtain ⟨v, h3, h4⟩ := ih y K h1
        exact ⟨v, h3, fun K' hk => h2 (fun o => match o with
          | .inl y => loopB B n (fun x => X x K') (fun r => R r K') y
          | .inr (.inl y) => X y K'
          | .inr (.inr r) => R r K') (h4 K' hk)⟩
      | .inr (.inl y), h1, h2 =>
        obtain ⟨v, h3, h4⟩ := hX y K h1
        exact ⟨v, h3, fun K' hk => h2 (fun o => match o with
          | .inl y => loopB B n (fun x => X x K') (fun r => R r K') y
          | .inr (.inl y) => X y K'
          | .inr (.inr r) => R r K') (h4 K' hk)⟩
      | .inr (.inr r), h1, h2 =>
        obtain ⟨v, h3, h4⟩ := hR r K h1
        exact ⟨v, h3, fun K' hk => h2 (fun o => match o with
          | .inl y => loopB B n (fun x => X x K') (fun r => R r K') y
          | .inr (.inl y) => X y K'
          | .inr (.inr r) => R r K') (h4 K' hk)⟩
  intro K h
  obtain ⟨n, h⟩ := h
  obtain ⟨v, h1, h2⟩ := key n x0 K h
  exact ⟨v, h1, fun K' hk => ⟨n, h2 K' hk⟩⟩

end Gm
