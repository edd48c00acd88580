/- Operations that hang on their operands alone: third part, binary operations. -/
import Derived.Test.YtbhgalddlkebgaaDoorGmF
import Derived.Laws.Strings
namespace Gm
open Go

section
variable {E : Env} {S : Sit} {K : AV → Prop}

theorem struct_loop (E : Env) (S : Sit) (d : Nat) (xs ys : List AV) (vs us : Array Value) (hx : Cs S xs vs) (hy : Cs S ys us) (n : Nat)
    (ih : ∀ (t : TypeId) (a b : AV) (v u : Value) (r : Bool) (w : World), aeq E d t a b = some r → Rv S a v → Rv S b u → (Op.equalIn n t v u).run E.P w = Result.ok r w) (w : World) :
    ∀ (fs : List Field) (r : Bool),
    fs.foldr (fun f acc =>
        if f.name = "_" then none else
        match acc, partC E f.type xs f.offset, partC E f.type ys f.offset with
        | some r, some a, some b => (aeq E d f.type a b).map fun q => q && r
        | _, _, _ => none) (some true) = some r →
    (forIn (m := Sem) fs ((none, ()) : Option Bool × Unit) fun f __s =>
              if f.name ≠ "_" then do
                let __do_lift ← part f.type vs f.offset
                let __do_lift_1 ← part f.type us f.offset
                let __do_lift ← Op.equalIn n f.type __do_lift __do_lift_1
                if (!__do_lift) = true then pure (ForInStep.done (some false, ()))
                  else pure (ForInStep.yield (none, ()))
              else pure (ForInStep.yield (none, ()))).run E.P w = Result.ok (if r then (none, ()) else (some false, ())) w
  | [], r, h => by
    simp at h
    subst h
    rfl
  | f :: fs, r, h => by
    simp only [List.foldr_cons] at h
    split at h
    · cases h
    · rename_i hn
      split at h
      · rename_i r' a b hr ha hb
        simp only [Option.map_eq_some_iff] at h
        obtain ⟨q, hq, rfl⟩ := h
        obtain ⟨v, hv1, hv2⟩ := part_ok ha (by have := hx.1; omega) hx.2
        obtain ⟨u, hu1, hu2⟩ := part_ok hb (by have := hy.1; omega) hy.2
        have h2 := struct_loop E S d xs ys vs us hx hy n ih w fs r' hr
        have h3 := ih f.type a b v u q w hq hv2 hu2
        rw [List.forIn_cons]
        simp only [ne_eq, hn, not_false_eq_true, if_true, Sem.run_bind, hv1, hu1, Result.andThen_ok, h3]
        cases q with
        | true => simp only [Bool.not_true, Bool.false_eq_true, if_false, Sem.run_pure, Result.andThen_ok, Bool.true_and]; exact h2
        | false => simp
      · cases h

theorem array_loop (E : Env) (S : Sit) (d : Nat) (xs ys : List AV) (vs us : Array Value) (hx : Cs S xs vs) (hy : Cs S ys us) (n : Nat) (e : TypeId) (m : Nat)
    (ih : ∀ (t : TypeId) (a b : AV) (v u : Value) (r : Bool) (w : World), aeq E d t a b = some r → Rv S a v → Rv S b u → (Op.equalIn n t v u).run E.P w = Result.ok r w) (w : World) :
    ∀ (is : List Nat) (r : Bool),
    is.foldr (fun i acc =>
        match acc, partC E e xs (i * m), partC E e ys (i * m) with
        | some r, some a, some b => (aeq E d e a b).map fun q => q && r
        | _, _, _ => none) (some true) = some r →
    (forIn (m := Sem) is ((none, ()) : Option Bool × Unit) fun i __s => do
            let __do_lift ← part e vs (i * m)
            let __do_lift_1 ← part e us (i * m)
            let __do_lift ← Op.equalIn n e __do_lift __do_lift_1
            if (!__do_lift) = true then pure (ForInStep.done (some false, ())) else pure (ForInStep.yield (none, ()))).run E.P w = Result.ok (if r then (none, ()) else (some false, ())) w
  | [], r, h => by
    simp at h
    subst h
    rfl
  | i :: is, r, h => by
    simp only [List.foldr_cons] at h
    split at h
    · rename_i r' a b hr ha hb
      simp only [Option.map_eq_some_iff] at h
      obtain ⟨q, hq, rfl⟩ := h
      obtain ⟨v, hv1, hv2⟩ := part_ok ha (by have := hx.1; omega) hx.2
      obtain ⟨u, hu1, hu2⟩ := part_ok hb (by have := hy.1; omega) hy.2
      have h2 := array_loop E S d xs ys vs us hx hy n e m ih w is r' hr
      have h3 := ih e a b v u q w hq hv2 hu2
      rw [List.forIn_cons]
      simp only [Sem.run_bind, hv1, hu1, Result.andThen_ok, h3]
      cases q with
      | true => simp only [Bool.not_true, Bool.false_eq_true, if_false, Sem.run_pure, Result.andThen_ok, Bool.true_and]; exact h2
      | false => simp
    · cases h

theorem str_beq {s t : Str} {a b : ByteArray} (ha : a.data.toList = s) (hb : b.data.toList = t) : (a == b) = (s == t) := by
  subst ha; subst hb
  cases a; cases b
  rename_i x y
  show (x == y) = (x.toList == y.toList)
  rw [Bool.eq_iff_iff]
  simp

theorem aeq_ok : ∀ (d : Nat) (t : TypeId) (a b : AV) (v u : Value) (r : Bool) (n : Nat) (w : World), d ≤ n → aeq E d t a b = some r → Rv S a v → Rv S b u →
    (Op.equalIn n t v u).run E.P w = Result.ok r w
  | 0, _, _, _, _, _, _, _, _, _, h, _, _ => by simp [aeq] at h
  | d + 1, t, a, b, v, u, r, n, w, hd, h, hv, hu => by
    obtain ⟨n, rfl⟩ : ∃ m, n = m + 1 := ⟨n - 1, by omega⟩
    unfold aeq at h
    split at h
    · rename_i p q ht
      cases h
      cases hv; cases hu
      simp [Op.equalIn, run_undT ht]
    · rename_i k0 k p k' q ht
      cases hv; cases hu
      split at h
      · rename_i hk
        cases h
        subst hk
        simp [Op.equalIn, run_undT ht]
      · cases h
    · rename_i p q ht
      cases h
      obtain ⟨x, rfl, hx⟩ := hv.str_inv
      obtain ⟨y, rfl, hy⟩ := hu.str_inv
      simp only [Op.equalIn, Sem.run_bind, run_undT ht, Result.andThen_ok, Sem.run_pure, str_beq hx hy]
    · rename_i ht
      cases h
      cases hv; cases hu
      simp [Op.equalIn, run_undT ht]
    · rename_i ht
      cases h
      cases hv; cases hu
      simp [Op.equalIn, run_undT ht]
    · rename_i ht
      cases h
      cases hv; cases hu
      simp [Op.equalIn, run_undT ht]
    · rename_i ht
      cases h
      cases hu
      cases hv
      simp [Op.equalIn, run_undT ht]
    · rename_i ht
      cases h
      cases hu
      cases hv with
      | slN _ _ e => exact absurd rfl e
      | slE => simp [Op.equalIn, run_undT ht]
      | sl => simp [Op.equalIn, run_undT ht]
    · rename_i fields xs ys ht
      split at h
      · cases h
      · rename_i hst
        obtain ⟨vs, rfl, c1, c2⟩ := hv.agg_inv
        obtain ⟨us, rfl, c3, c4⟩ := hu.agg_inv
        have key := struct_loop E S d xs ys vs us ⟨c1, c2⟩ ⟨c3, c4⟩ n (fun t a b v u r w h1 h2 h3 => aeq_ok d t a b v u r n w (by omega) h1 h2 h3) w fields.toList r h
        simp only [Op.equalIn, Sem.run_bind, run_undT ht, Result.andThen_ok, run_program, hst, if_false, Bool.false_eq_true]
        rw [← Array.forIn_toList, key]
        cases r <;> rfl
    · rename_i len e xs ys ht
      split at h
      · cases h
      · rename_i m hm
        obtain ⟨vs, rfl, c1, c2⟩ := hv.agg_inv
        obtain ⟨us, rfl, c3, c4⟩ := hu.agg_inv
        have key := array_loop E S d xs ys vs us ⟨c1, c2⟩ ⟨c3, c4⟩ n e m (fun t a b v u r w h1 h2 h3 => aeq_ok d t a b v u r n w (by omega) h1 h2 h3) w (List.range len) r h
        simp only [Op.equalIn, Sem.run_bind, run_undT ht, Result.andThen_ok, run_sizeT hm]
        simp only [Std.Legacy.Range.forIn_eq_forIn_range', Std.Legacy.Range.size, Nat.sub_zero, Nat.add_sub_cancel, Nat.div_one]
        rw [List.range_eq_range'] at key
        rw [key]
        cases r <;> rfl
    · cases h

end
end Gm
