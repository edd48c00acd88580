/- Words for the printed texts. -/
import Derived.Test.YtbhgalddlkebgaaGmZ5
namespace Gm
open Go

def oget {α : Type} (x : Option α) (K : α → Prop) : Prop := match x with
  | some v => K v
  | none => False

def gInt (k : IntKind) (v : AV) (K : Int → Prop) : Prop := match v with
  | .int k' n => if k' = k then K n else False
  | _ => False
def gBool (v : AV) (K : Bool → Prop) : Prop := match v with
  | .bool b => K b
  | _ => False
def gStr (v : AV) (K : Str → Prop) : Prop := match v with
  | .str b => K b
  | _ => False
def gSl (f : SF) (t : Ty) (v : AV) (K : List t.den → Prop) : Prop := match f, v with
  | .any, .sl .any t' xs => if h : t' = t then K (h ▸ xs) else False
  | .full, .sl .full t' xs => if h : t' = t then K (h ▸ xs) else False
  | .nn, .sl .nn t' xs => if h : t' = t then K (h ▸ xs) else False
  | _, _ => False
def gAgg (v : AV) (K : List AV → Prop) : Prop := match v with
  | .agg cs => K cs
  | _ => False
def gTup (v : AV) (K : List AV → Prop) : Prop := match v with
  | .tup cs => K cs
  | _ => False
def gIface (t : Nat) (v : AV) (K : AV → Prop) : Prop := match v with
  | .iface t' a => bif Nat.beq t' t then K a else False
  | _ => False
def gPtr (b o : Nat) (v : AV) (K : Prop) : Prop := match v with
  | .ptr b' o' => bif Nat.beq b' b && Nat.beq o' o then K else False
  | _ => False
def gSlrAt (b : Nat) (v : AV) (K : Prop) : Prop := match v with
  | .slr b' => bif Nat.beq b' b then K else False
  | _ => False
def gNilp (v : AV) (K : Prop) : Prop := match v with
  | .nilp => K
  | _ => False
def gSnil (v : AV) (K : Prop) : Prop := match v with
  | .snil => K
  | _ => False
def gNilf (v : AV) (K : Prop) : Prop := match v with
  | .nilf => K
  | _ => False
def gNili (v : AV) (K : Prop) : Prop := match v with
  | .nili => K
  | _ => False
def gTop (v : AV) (K : Prop) : Prop := match v with
  | .top => K
  | _ => False
def gFunc (f : Nat) (v : AV) (K : List AV → List AV → Prop) : Prop := match v with
  | .func f' p q => bif Nat.beq f' f then K p q else False
  | _ => False
def gFptr (o : Nat) (v : AV) (K : List AV → Prop) : Prop := match v with
  | .fptr cs o' => bif Nat.beq o' o then K cs else False
  | _ => False
def gSlr (v : AV) (K : Nat → Prop) : Prop := match v with
  | .slr b => K b
  | _ => False
def gRow (ro : Bool) (t : Ty) (k : Blk) (K : List t.den → Prop) : Prop := match k with
  | .row ro' t' xs => bif ro' == ro then (if h : t' = t then K (h ▸ xs) else False) else False
  | _ => False
def gCells (k : Blk) (K : List AV → Prop) : Prop := match k with
  | .cells cs => K cs
  | _ => False
def gDead (k : Blk) (K : Prop) : Prop := match k with
  | .dead => K
  | _ => False
def gCons (l : List AV) (K : AV → List AV → Prop) : Prop := match l with
  | a :: r => K a r
  | [] => False
def gNil (l : List AV) (K : Prop) : Prop := match l with
  | [] => K
  | _ :: _ => False
def gHomes (kp : Keep) (st : St) (K : Prop) : Prop := bif homesOk kp (kp.ks.filterMap (homeOf st.fr)) then K else False

theorem gInt_elim {k : IntKind} {v : AV} {K : Int → Prop} (h : gInt k v K) : ∃ n, v = .int k n ∧ K n := by
  cases v <;> first | exact h.elim | skip
  rename_i k' n
  change (if k' = k then K n else False) at h
  split at h
  · rename_i e; subst e; exact ⟨_, rfl, h⟩
  · exact h.elim
theorem gBool_elim {v : AV} {K : Bool → Prop} (h : gBool v K) : ∃ n, v = .bool n ∧ K n := by
  cases v <;> first | exact h.elim | exact ⟨_, rfl, h⟩
theorem gStr_elim {v : AV} {K : Str → Prop} (h : gStr v K) : ∃ n, v = .str n ∧ K n := by
  cases v <;> first | exact h.elim | exact ⟨_, rfl, h⟩
theorem gSl_elim {f : SF} {t : Ty} {v : AV} {K : List t.den → Prop} (h : gSl f t v K) : ∃ xs, v = .sl f t xs ∧ K xs := by
  cases f <;> cases v <;> first | exact h.elim | skip
  all_goals (rename_i g t' xs; cases g <;> first | exact h.elim | skip)
  all_goals
    change (if h : t' = t then K (h ▸ xs) else False) at h
    split at h
    · rename_i e; subst e; exact ⟨_, rfl, h⟩
    · exact h.elim
theorem gAgg_elim {v : AV} {K : List AV → Prop} (h : gAgg v K) : ∃ n, v = .agg n ∧ K n := by
  cases v <;> first | exact h.elim | exact ⟨_, rfl, h⟩
theorem gTup_elim {v : AV} {K : List AV → Prop} (h : gTup v K) : ∃ n, v = .tup n ∧ K n := by
  cases v <;> first | exact h.elim | exact ⟨_, rfl, h⟩
theorem gIface_elim {t : Nat} {v : AV} {K : AV → Prop} (h : gIface t v K) : ∃ a, v = .iface t a ∧ K a := by
  cases v <;> first | exact h.elim | skip
  rename_i t' a
  change (bif Nat.beq t' t then K a else False) at h
  cases e : Nat.beq t' t with
  | false => rw [e] at h; exact h.elim
  | true => rw [e] at h; cases Nat.eq_of_beq_eq_true e; exact ⟨_, rfl, h⟩
theorem gPtr_elim {b o : Nat} {v : AV} {K : Prop} (h : gPtr b o v K) : v = .ptr b o ∧ K := by
  cases v <;> first | exact h.elim | skip
  rename_i b' o'
  change (bif Nat.beq b' b && Nat.beq o' o then K else False) at h
  cases e : Nat.beq b' b with
  | false => rw [e] at h; exact h.elim
  | true =>
    cases e2 : Nat.beq o' o with
    | false => rw [e, e2] at h; exact h.elim
    | true => rw [e, e2] at h; cases Nat.eq_of_beq_eq_true e; cases Nat.eq_of_beq_eq_true e2; exact ⟨rfl, h⟩
theorem gSlrAt_elim {b : Nat} {v : AV} {K : Prop} (h : gSlrAt b v K) : v = .slr b ∧ K := by
  cases v <;> first | exact h.elim | skip
  rename_i b'
  change (bif Nat.beq b' b then K else False) at h
  cases e : Nat.beq b' b with
  | false => rw [e] at h; exact h.elim
  | true => rw [e] at h; cases Nat.eq_of_beq_eq_true e; exact ⟨rfl, h⟩
theorem gNilp_elim {v : AV} {K : Prop} (h : gNilp v K) : v = .nilp ∧ K := by
  cases v <;> first | exact h.elim | exact ⟨rfl, h⟩
theorem gSnil_elim {v : AV} {K : Prop} (h : gSnil v K) : v = .snil ∧ K := by
  cases v <;> first | exact h.elim | exact ⟨rfl, h⟩
theorem gNilf_elim {v : AV} {K : Prop} (h : gNilf v K) : v = .nilf ∧ K := by
  cases v <;> first | exact h.elim | exact ⟨rfl, h⟩
theorem gNili_elim {v : AV} {K : Prop} (h : gNili v K) : v = .nili ∧ K := by
  cases v <;> first | exact h.elim | exact ⟨rfl, h⟩
theorem gTop_elim {v : AV} {K : Prop} (h : gTop v K) : v = .top ∧ K := by
  cases v <;> first | exact h.elim | exact ⟨rfl, h⟩
theorem gFunc_elim {f : Nat} {v : AV} {K : List AV → List AV → Prop} (h : gFunc f v K) : ∃ p q, v = .func f p q ∧ K p q := by
  cases v <;> first | exact h.elim | skip
  rename_i f' p q
  change (bif Nat.beq f' f then K p q else False) at h
  cases e : Nat.beq f' f with
  | false => rw [e] at h; exact h.elim
  | true => rw [e] at h; cases Nat.eq_of_beq_eq_true e; exact ⟨_, _, rfl, h⟩
theorem gFptr_elim {o : Nat} {v : AV} {K : List AV → Prop} (h : gFptr o v K) : ∃ cs, v = .fptr cs o ∧ K cs := by
  cases v <;> first | exact h.elim | skip
  rename_i cs o'
  change (bif Nat.beq o' o then K cs else False) at h
  cases e : Nat.beq o' o with
  | false => rw [e] at h; exact h.elim
  | true => rw [e] at h; cases Nat.eq_of_beq_eq_true e; exact ⟨_, rfl, h⟩
theorem gSlr_elim {v : AV} {K : Nat → Prop} (h : gSlr v K) : ∃ b, v = .slr b ∧ K b := by
  cases v <;> first | exact h.elim | exact ⟨_, rfl, h⟩
theorem gRow_elim {ro : Bool} {t : Ty} {k : Blk} {K : List t.den → Prop} (h : gRow ro t k K) : ∃ xs, k = .row ro t xs ∧ K xs := by
  cases k <;> first | exact h.elim | skip
  rename_i ro' t' xs
  change (bif ro' == ro then (if h : t' = t then K (h ▸ xs) else False) else False) at h
  cases e : ro' == ro with
  | false => rw [e] at h; exact h.elim
  | true =>
    rw [e] at h
    have e2 : ro' = ro := by simpa using e
    subst e2
    simp only [cond_true] at h
    split at h
    · rename_i e3; subst e3; exact ⟨_, rfl, h⟩
    · exact h.elim
theorem gCells_elim {k : Blk} {K : List AV → Prop} (h : gCells k K) : ∃ cs, k = .cells cs ∧ K cs := by
  cases k <;> first | exact h.elim | exact ⟨_, rfl, h⟩
theorem gDead_elim {k : Blk} {K : Prop} (h : gDead k K) : k = .dead ∧ K := by
  cases k <;> first | exact h.elim | exact ⟨rfl, h⟩
theorem gCons_elim {l : List AV} {K : AV → List AV → Prop} (h : gCons l K) : ∃ a r, l = a :: r ∧ K a r := by
  cases l <;> first | exact h.elim | exact ⟨_, _, rfl, h⟩
theorem gNil_elim {l : List AV} {K : Prop} (h : gNil l K) : l = [] ∧ K := by
  cases l <;> first | exact h.elim | exact ⟨rfl, h⟩
theorem gHomes_elim {kp : Keep} {st : St} {K : Prop} (h : gHomes kp st K) : homesOk kp (kp.ks.filterMap (homeOf st.fr)) = true ∧ K := by
  unfold gHomes at h
  cases e : homesOk kp (kp.ks.filterMap (homeOf st.fr)) with
  | false => rw [e] at h; exact h.elim
  | true => rw [e] at h; exact ⟨rfl, h⟩

theorem loops_of {E : Env} {tab : Tab} {lt : Nat → Option LSpec} {d f nt : Nat} {ids : List Nat} (hn : (E.P.funcs[f]?).map (·.ntmps) = some nt) (hids : (loopsIn E.P f).map (·.1) = ids)
    (h : ∀ k i, ids[k]? = some i → ∀ l, lt i = some l → LSound E tab (afun E tab d) nt lt i ((loopsIn E.P f).getD k (0, .skip)).2 l) : LoopsOk E tab lt d f := by
  intro fn c hf hb p hp l hl
  have e1 : fn.ntmps = nt := by rw [hf] at hn; simpa using hn
  have e2 : loopsIn E.P f = loopsOf c 0 := by unfold loopsIn; rw [hf]; simp only; rw [hb]
  obtain ⟨k, hk, he⟩ := List.mem_iff_getElem.1 hp
  have h1 : ids[k]? = some p.1 := by rw [← hids, e2, List.getElem?_map, List.getElem?_eq_getElem hk, he]; rfl
  have h2 := h k p.1 h1 l hl
  rw [e2, List.getD_eq_getElem?_getD, List.getElem?_eq_getElem hk] at h2
  simp only [Option.getD_some, he] at h2
  rw [e1]
  exact h2

theorem nonum_of {P : Program} (h : (P.funcs.toList.all fun fn => !(fn.name == "runtime.NumGoroutine")) = true) : NoNum P := by
  intro f fn hf
  have hm : fn ∈ P.funcs.toList := Array.mem_toList_iff.2 (Array.mem_of_getElem? hf)
  have := List.all_eq_true.1 h fn hm
  simpa using this

theorem tab_nil (P : Program) : TabSound P [] := fun _ _ h => by cases h
theorem tab_cons {P : Program} {f : Nat} {en : Entry} {r : Tab} (h : EntrySound P f en) (hr : TabSound P r) : TabSound P ((f, en) :: r) := by
  intro g e he
  unfold tabGet at he
  cases hb : Nat.beq f g with
  | true => rw [hb] at he; cases he; cases Nat.eq_of_beq_eq_true hb; exact h
  | false => rw [hb] at he; exact hr g e he
theorem dtab_nil : TabDet [] := fun _ _ h => by cases h
theorem dtab_cons {f : Nat} {en : Entry} {r : Tab} (h : ∀ args, Det (en args)) (hr : TabDet r) : TabDet ((f, en) :: r) := by
  intro g e he
  unfold tabGet at he
  cases hb : Nat.beq f g with
  | true => rw [hb] at he; cases he; exact h
  | false => rw [hb] at he; exact hr g e he

theorem det_oget {α β : Type} (x : Option α) {T : α → (β → Prop) → Prop} (hT : ∀ v, Det (T v)) : Det (fun K => oget x fun v => T v K) := by
  cases x
  · exact det_false
  · exact hT _

theorem det_loop {α β γ : Type} {B : (α → Prop) → (α → Prop) → (β → Prop) → α → Prop} {X : α → (γ → Prop) → Prop} {R : β → (γ → Prop) → Prop}
    (hB : ∀ x, Det (fun K : α ⊕ α ⊕ β → Prop => B (fun y => K (.inl y)) (fun y => K (.inr (.inl y))) (fun r => K (.inr (.inr r))) x))
    (hX : ∀ x, Det (X x)) (hR : ∀ r, Det (R r)) (x0 : α) : Det (fun K => ∃ n, loopB B n (fun x => X x K) (fun r => R r K) x0) := by
  have key : ∀ n x K, loopB B n (fun x => X x K) (fun r => R r K) x → ∃ v, K v ∧ ∀ K', K' v → loopB B n (fun x => X x K') (fun r => R r K') x := by
    intro n
    induction n with
    | zero => intro x K h; exact h.elim
    | succ n ih =>
      intro x K h
      obtain ⟨o, h1, h2⟩ := hB x (fun o => match o with
        | .inl y => loopB B n (fun x => X x K) (fun r => R r K) y
        | .inr (.inl y) => X y K
        | .inr (.inr r) => R r K) h
      match o, h1, h2 with
      | .inl y, h1, h2 =>
        obtain ⟨v, h3, h4⟩ := ih y K h1
        exact ⟨v, h3, fun K' hk => h2 (fun o => match o with
          | .inl y => loopB B n (fun x => X x K') (fun r => R r K') y
          | .inr (.inl y) => X y K'
          | .inr (.inr r) => R r K') (h4 K' hk)⟩
      | .inr (.inl y), h1, h2 =>
        obtain ⟨v, h3, h4⟩ := hX y K h1
        exact ⟨v, h3, fun K' hk => h2 (fun o => match o with
          | .inl y => loopB B n (fun x => X x K') (fun r => R r K') y
          | .inr (.inl y) => X y K'
          | .inr (.inr r) => R r K') (h4 K' hk)⟩
      | .inr (.inr r), h1, h2 =>
        obtain ⟨v, h3, h4⟩ := hR r K h1
        exact ⟨v, h3, fun K' hk => h2 (fun o => match o with
          | .inl y => loopB B n (fun x => X x K') (fun r => R r K') y
          | .inr (.inl y) => X y K'
          | .inr (.inr r) => R r K') (h4 K' hk)⟩
  intro K h
  obtain ⟨n, h⟩ := h
  obtain ⟨v, h1, h2⟩ := key n x0 K h
  exact ⟨v, h1, fun K' hk => ⟨n, h2 K' hk⟩⟩

end Gm
