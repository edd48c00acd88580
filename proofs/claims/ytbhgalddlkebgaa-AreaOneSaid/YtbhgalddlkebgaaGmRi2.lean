/- What disk.Right answers, by a walk. -/
import Derived.Test.YtbhgalddlkebgaaGmRd3
namespace Go.Proofs
open Go.RowKit Go.Shelf
attribute [local go_sem] Oper.semAt_some
namespace Rd

set_option maxHeartbeats 1000000 in
set_option maxRecDepth 100000 in
theorem long_in (F : Fence) (n : Nat) (h : F.fn 98) (hro : F.round = none) (s : ByteArray) (w : World) :
    CallsIn F n Try.prog 98 #[.string s] w fun e w' => e = .returned (.bool (decide ((s.size : Int) > 64))) ∧ w' = w := by
  refine callsIn_of_wp Try.func98 rfl h ?_ hro
  simp only [Try.ntmps98, List.size_toArray, List.length_cons, List.length_nil, Nat.reduceAdd, Nat.reduceSub, Array.replicate_succ, Array.replicate_zero, List.push_toArray, List.append_toArray, List.nil_append, List.cons_append]
  gi_wp2
  go_ret
  exact ⟨by simp, rfl⟩

set_option maxHeartbeats 4000000 in
set_option maxRecDepth 100000 in
theorem idxS_in (F : Fence) (n : Nat) (h : F.fn 122) (h98 : F.fn 98) (hro : F.round = none) (hn : 1 ≤ n) (n₀ : Nat) (sa : Option Addr) (ns cap : Nat) (sure : Nat → ByteArray) (hns : (ns : Int) ≤ 140737488351232) (w : World) (hS : Ss n₀ w (.slice sa ns cap) ns sure) :
    CallsIn F n Try.prog 122 #[.slice sa ns cap, .func (.func 98) #[] #[]] w fun e w' => (∃ r : Int, e = .returned (.int .i64 r) ∧ (0 ≤ r ↔ ∃ j, j < ns ∧ ((sure j).size : Int) > 64)) ∧ w' = w := by
  refine callsIn_of_wp Try.func122 rfl h ?_ hro
  simp only [Try.ntmps122, List.size_toArray, List.length_cons, List.length_nil, Nat.reduceAdd, Nat.reduceSub, Array.replicate_succ, Array.replicate_zero, List.push_toArray, List.append_toArray, List.nil_append, List.cons_append]
  gi_wp2
  gi_loopw [8] (fun i wr => ∃ k : Nat, k ≤ ns ∧ i = .int .i64 k ∧ (∀ j, j < k → ¬ ((sure j).size : Int) > 64) ∧ wr = w) (fun i _ => ns - (intOf i).toNat)
  case atStart => exact ⟨0, Nat.zero_le _, rfl, fun j hj => by omega, rfl⟩
  case round =>
    obtain ⟨k, hk, rfl, hp, rfl⟩ := hrel
    by_cases hlt : k < ns
    · rcases hS with ⟨a, c, e, h0⟩ | ⟨b, off, c, e, hb, hc⟩
      · omega
      · cases e
        have hcx := hc k hlt
        gi_wp2_with (gi_at_call 98; refine (long_in F (n - 1) h98 hro _ _).mono ?_; rintro e w1 ⟨rfl, rfl⟩)
        · rename_i hgt
          go_ret
          exact ⟨⟨_, rfl, fun _ => ⟨k, hlt, hgt⟩, fun _ => by omega⟩, rfl⟩
        · rename_i hle
          refine ⟨⟨k + 1, by omega, by simp, fun j hj => ?_, trivial⟩, by simp [intOf]; omega⟩
          by_cases e : j = k
          · subst e; omega
          · have := hp j (by omega)
            omega
    · obtain rfl : k = ns := by omega
      gi_wp2
      go_ret
      refine ⟨⟨_, rfl, fun h => absurd h (by decide), ?_⟩, rfl⟩
      rintro ⟨j, hj, h⟩
      have := hp j hj
      omega

set_option maxHeartbeats 1000000 in
set_option maxRecDepth 100000 in
theorem contS_in (F : Fence) (n : Nat) (h97 : F.fn 97) (h : F.fn 122) (h98 : F.fn 98) (hro : F.round = none) (hn : 2 ≤ n) (n₀ : Nat) (sa : Option Addr) (ns cap : Nat) (sure : Nat → ByteArray) (hns : (ns : Int) ≤ 140737488351232) (w : World) (hS : Ss n₀ w (.slice sa ns cap) ns sure) :
    CallsIn F n Try.prog 97 #[.slice sa ns cap, .func (.func 98) #[] #[]] w fun e w' => (∃ b : Bool, e = .returned (.bool b) ∧ (b = true ↔ ∃ j, j < ns ∧ ((sure j).size : Int) > 64)) ∧ w' = w := by
  have h1 : 1 ≤ n := by omega
  refine callsIn_of_wp Try.func97 rfl h97 ?_ hro
  simp only [Try.ntmps97, List.size_toArray, List.length_cons, List.length_nil, Nat.reduceAdd, Nat.reduceSub, Array.replicate_succ, Array.replicate_zero, List.push_toArray, List.append_toArray, List.nil_append, List.cons_append]
  gi_wp2_with (gi_at_call 122; refine (idxS_in F (n - 1) h h98 hro (by omega) n₀ _ _ _ sure hns _ hS).mono ?_; rintro e w1 ⟨⟨r, rfl, hr⟩, rfl⟩)
  go_ret
  exact ⟨⟨_, rfl, by simp⟩, rfl⟩

set_option maxHeartbeats 4000000 in
set_option maxRecDepth 100000 in
theorem right1_in (F : Fence) (n : Nat) (h : F.fn 100) (h98 : F.fn 98) (h101 : F.fn 101) (hro : F.round = none) (hn : 1 ≤ n) (B : Nat) (sa : Option Addr) (ns cap : Nat) (cv : Value) (fuse : Int) (dead : Bool) (sc : Int) (da : ByteArray) (w : World)
    (hB : w.heap[B]? = some (.cells #[.slice sa ns cap, cv, .int .i64 fuse, .bool dead] 67 (0, 0))) :
    CallsIn F n Try.prog 100 #[.agg #[.int .i64 sc, .string da], .pointer (some ⟨B, 0, none⟩)] w fun e w' => (∃ b : Bool, e = .returned (.bool b) ∧ (b = true ↔ ¬ ((0 ≤ sc ∧ sc < ns) ∧ ((da.size : Int) ≤ 64)))) ∧ Below w.heap.size w w' := by
  refine callsIn_of_wp Try.func100 rfl h ?_ hro
  simp only [Try.ntmps100, List.size_toArray, List.length_cons, List.length_nil, Nat.reduceAdd, Nat.reduceSub, Array.replicate_succ, Array.replicate_zero, List.push_toArray, List.append_toArray, List.nil_append, List.cons_append]
  have k0 : w.cell? ⟨B, 0, none⟩ = some (.slice sa ns cap) := (cell_of_heap hB).trans rfl
  have k1 : w.cell? ⟨B, 1, none⟩ = some cv := (cell_of_heap hB).trans rfl
  have k2 : w.cell? ⟨B, 2, none⟩ = some (.int .i64 fuse) := (cell_of_heap hB).trans rfl
  have k3 : w.cell? ⟨B, 3, none⟩ = some (.bool dead) := (cell_of_heap hB).trans rfl
  have hlt : B < w.heap.size := (Array.getElem?_eq_some_iff.1 hB).1
  gi_wp2_with (first | (gi_at_call 101; refine (there_in F (n - 1) h101 hro _ _ _ _ _ _ _ _).mono ?_; rintro e w1 ⟨rfl, rfl⟩) | (gi_at_call 98; refine (long_in F (n - 1) h98 hro _ _).mono ?_; rintro e w2 ⟨rfl, rfl⟩))
  all_goals go_ret
  · rename_i hr
    refine ⟨⟨_, rfl, ?_⟩, ((Below.refl _ w).alloc (Nat.le_refl _) _).alloc (by simp) _⟩
    rw [decide_eq_true_eq]
    omega
  · rename_i hr
    refine ⟨⟨_, rfl, ?_⟩, ((Below.refl _ w).alloc (Nat.le_refl _) _).alloc (by simp) _⟩
    simp only [true_iff]
    omega

set_option maxHeartbeats 4000000 in
set_option maxRecDepth 100000 in
theorem idxW_in (F : Fence) (n : Nat) (h : F.fn 123) (h100 : F.fn 100) (h98 : F.fn 98) (h101 : F.fn 101) (hro : F.round = none) (hn : 2 ≤ n) (B : Nat) (sa : Option Addr) (ns scap : Nat) (cv : Value) (fuse : Int) (dead : Bool)
    (ca : Option Addr) (len cap : Nat) (sec : Nat → Int) (dat : Nat → ByteArray) (hlen : (len : Int) ≤ 140737488351232) (w : World) (hC : Ws w.heap.size w (.slice ca len cap) len sec dat)
    (hB : w.heap[B]? = some (.cells #[.slice sa ns scap, cv, .int .i64 fuse, .bool dead] 67 (0, 0))) :
    CallsIn F n Try.prog 123 #[.slice ca len cap, .func (.func 100) #[] #[.pointer (some ⟨B, 0, none⟩)]] w fun e w' =>
      (∃ r : Int, e = .returned (.int .i64 r) ∧ (0 ≤ r ↔ ∃ j, j < len ∧ ¬ ((0 ≤ sec j ∧ sec j < ns) ∧ ((dat j).size : Int) ≤ 64))) ∧ Below w.heap.size w w' := by
  have h1 : 1 ≤ n := by omega
  refine callsIn_of_wp Try.func123 rfl h ?_ hro
  simp only [Try.ntmps123, List.size_toArray, List.length_cons, List.length_nil, Nat.reduceAdd, Nat.reduceSub, Array.replicate_succ, Array.replicate_zero, List.push_toArray, List.append_toArray, List.nil_append, List.cons_append]
  have hlt : B < w.heap.size := (Array.getElem?_eq_some_iff.1 hB).1
  gi_wp2
  gi_loopw [8] (fun i wr => ∃ k : Nat, k ≤ len ∧ i = .int .i64 k ∧ (∀ j, j < k → ((0 ≤ sec j ∧ sec j < ns) ∧ ((dat j).size : Int) ≤ 64)) ∧ Below w.heap.size w wr) (fun i _ => len - (intOf i).toNat)
  case atStart => exact ⟨0, Nat.zero_le _, rfl, fun j hj => by omega, Below.refl _ _⟩
  case round =>
    obtain ⟨k, hk, rfl, hp, hbel⟩ := hrel
    have hB' : wr.heap[B]? = some (.cells #[.slice sa ns scap, cv, .int .i64 fuse, .bool dead] 67 (0, 0)) := (hbel.block B hlt).trans hB
    by_cases hlt : k < len
    · rcases hC.below hbel with ⟨a, c, e, h0⟩ | ⟨b, off, c, e, hb, hc⟩
      · omega
      · cases e
        obtain ⟨hcx, hcy⟩ := hc k hlt
        gi_wp2_with (gi_at_call 100; refine (right1_in F (n - 1) h100 h98 h101 hro (by omega) B sa ns scap cv fuse dead _ _ _ hB').mono ?_; rintro e w1 ⟨⟨b, rfl, hb1⟩, hB1⟩)
        · rename_i hbt
          go_ret
          exact ⟨⟨_, rfl, fun _ => ⟨k, hlt, hb1.1 hbt⟩, fun _ => by omega⟩, hbel.trans (hB1.mono hbel.size)⟩
        · rename_i hbf
          have hgood : (0 ≤ sec k ∧ sec k < ns) ∧ ((dat k).size : Int) ≤ 64 := Classical.byContradiction fun h => by
            have := hb1.2 h
            rw [hbf] at this
            cases this
          refine ⟨⟨k + 1, by omega, by simp, fun j hj => ?_, hbel.trans (hB1.mono hbel.size)⟩, by simp [intOf]; omega⟩
          by_cases e : j = k
          · subst e; exact hgood
          · exact hp j (by omega)
    · obtain rfl : k = len := by omega
      gi_wp2
      go_ret
      refine ⟨⟨_, rfl, fun h => absurd h (by decide), ?_⟩, hbel⟩
      rintro ⟨j, hj, h⟩
      exact absurd (hp j hj) h

set_option maxHeartbeats 1000000 in
set_option maxRecDepth 100000 in
theorem contW_in (F : Fence) (n : Nat) (h99 : F.fn 99) (h : F.fn 123) (h100 : F.fn 100) (h98 : F.fn 98) (h101 : F.fn 101) (hro : F.round = none) (hn : 3 ≤ n) (B : Nat) (sa : Option Addr) (ns scap : Nat) (cv : Value) (fuse : Int) (dead : Bool)
    (ca : Option Addr) (len cap : Nat) (sec : Nat → Int) (dat : Nat → ByteArray) (hlen : (len : Int) ≤ 140737488351232) (w : World) (hC : Ws w.heap.size w (.slice ca len cap) len sec dat)
    (hB : w.heap[B]? = some (.cells #[.slice sa ns scap, cv, .int .i64 fuse, .bool dead] 67 (0, 0))) :
    CallsIn F n Try.prog 99 #[.slice ca len cap, .func (.func 100) #[] #[.pointer (some ⟨B, 0, none⟩)]] w fun e w' =>
      (∃ b : Bool, e = .returned (.bool b) ∧ (b = true ↔ ∃ j, j < len ∧ ¬ ((0 ≤ sec j ∧ sec j < ns) ∧ ((dat j).size : Int) ≤ 64))) ∧ Below w.heap.size w w' := by
  have h1 : 1 ≤ n := by omega
  refine callsIn_of_wp Try.func99 rfl h99 ?_ hro
  simp only [Try.ntmps99, List.size_toArray, List.length_cons, List.length_nil, Nat.reduceAdd, Nat.reduceSub, Array.replicate_succ, Array.replicate_zero, List.push_toArray, List.append_toArray, List.nil_append, List.cons_append]
  gi_wp2_with (gi_at_call 123; refine (idxW_in F (n - 1) h h100 h98 h101 hro (by omega) B sa ns scap cv fuse dead _ _ _ sec dat hlen _ hC hB).mono ?_; rintro e w1 ⟨⟨r, rfl, hr⟩, hB1⟩)
  go_ret
  exact ⟨⟨_, rfl, by simp⟩, hB1⟩

def RightP (ns : Nat) (fuse : Int) (sure : Nat → ByteArray) (len : Nat) (sec : Nat → Int) (dat : Nat → ByteArray) : Prop :=
  1 ≤ ns ∧ ns ≤ 64 ∧ 0 ≤ fuse ∧ (∀ j, j < ns → ((sure j).size : Int) ≤ 64) ∧ ∀ j, j < len → ((0 ≤ sec j ∧ sec j < ns) ∧ ((dat j).size : Int) ≤ 64)

set_option maxHeartbeats 4000000 in
set_option maxRecDepth 100000 in
theorem right_in (F : Fence) (n : Nat) (h57 : F.fn 57) (h97 : F.fn 97) (h122 : F.fn 122) (h99 : F.fn 99) (h123 : F.fn 123) (h100 : F.fn 100) (h98 : F.fn 98) (h101 : F.fn 101) (hro : F.round = none) (hn : 4 ≤ n) (sa : Option Addr) (ns scap : Nat) (ca : Option Addr) (len ccap : Nat) (fuse : Int) (dead : Bool)
    (sure : Nat → ByteArray) (sec : Nat → Int) (dat : Nat → ByteArray) (hns : (ns : Int) ≤ 140737488351232) (hlen : (len : Int) ≤ 140737488351232) (w : World) (hS : Ss w.heap.size w (.slice sa ns scap) ns sure) (hC : Ws w.heap.size w (.slice ca len ccap) len sec dat) :
    CallsIn F n Try.prog 57 #[.agg #[.slice sa ns scap, .slice ca len ccap, .int .i64 fuse, .bool dead]] w fun e w' =>
      (∃ b : Bool, e = .returned (.bool b) ∧ (b = true ↔ RightP ns fuse sure len sec dat)) ∧ Below w.heap.size w w' := by
  have h1 : 1 ≤ n := by omega
  refine callsIn_of_wp Try.func57 rfl h57 ?_ hro
  simp only [Try.ntmps57, List.size_toArray, List.length_cons, List.length_nil, Nat.reduceAdd, Nat.reduceSub, Array.replicate_succ, Array.replicate_zero, List.push_toArray, List.append_toArray, List.nil_append, List.cons_append]
  have hbox : (w.alloc (.cells #[.slice sa ns scap, .slice ca len ccap, .int .i64 fuse, .bool dead] 67)).heap[w.heap.size]? = some (.cells #[.slice sa ns scap, .slice ca len ccap, .int .i64 fuse, .bool dead] 67 (0, 0)) := heap_new rfl
  have hB0 : Below w.heap.size w (w.alloc (.cells #[.slice sa ns scap, .slice ca len ccap, .int .i64 fuse, .bool dead] 67)) := (Below.refl _ w).alloc (Nat.le_refl _) _
  have hS0 : Ss w.heap.size (w.alloc (.cells #[.slice sa ns scap, .slice ca len ccap, .int .i64 fuse, .bool dead] 67)) (.slice sa ns scap) ns sure := by
    rcases hS with h | ⟨b, off, cap, e, hb, hc⟩
    · exact .inl h
    · exact .inr ⟨b, off, cap, e, hb, fun j hj => (hB0.cell (p := ⟨b, off + j, none⟩) hb).trans (hc j hj)⟩
  have hC0 : Ws (w.alloc (.cells #[.slice sa ns scap, .slice ca len ccap, .int .i64 fuse, .bool dead] 67)).heap.size (w.alloc (.cells #[.slice sa ns scap, .slice ca len ccap, .int .i64 fuse, .bool dead] 67)) (.slice ca len ccap) len sec dat := by
    rcases hC.below hB0 with h | ⟨b, off, cap, e, hb, hc⟩
    · exact .inl h
    · exact .inr ⟨b, off, cap, e, by simp; omega, hc⟩
  gi_wp2_with (first | (gi_at_call 97; refine (contS_in F (n - 1) h97 h122 h98 hro (by omega) w.heap.size _ _ _ sure hns _ hS0).mono ?_; rintro e w1 ⟨⟨b1, rfl, hb1⟩, rfl⟩) | (gi_at_call 99; refine (contW_in F (n - 1) h99 h123 h100 h98 h101 hro (by omega) w.heap.size sa ns scap _ fuse dead _ _ _ sec dat hlen _ hC0 hbox).mono ?_; rintro e w2 ⟨⟨b2, rfl, hb2⟩, hB2⟩))
  · rename_i hbad
    go_ret
    refine ⟨⟨false, rfl, ⟨(fun h => by cases h), ?_⟩⟩, hB0⟩
    rintro ⟨q1, q2, q3, q4, _⟩
    rcases hbad with (h | h) | h
    · omega
    · omega
    · obtain ⟨j, hj, h⟩ := hb1.1 h
      have := q4 j hj
      omega
  · rename_i hb1f
    go_ret
    refine ⟨⟨!b2, rfl, ?_⟩, hB0.trans (hB2.mono (by simp))⟩
    constructor
    · intro h
      have h2 : b2 = false := by simpa using h
      refine ⟨by omega, by omega, by omega, ?_, ?_⟩
      · intro j hj
        have : ¬ ∃ j, j < ns ∧ ((sure j).size : Int) > 64 := fun hx => by
          have := hb1.2 hx
          rw [hb1f.2] at this
          cases this
        exact Int.not_lt.1 (fun hgt => this ⟨j, hj, hgt⟩)
      · intro j hj
        refine Classical.byContradiction fun hx => ?_
        have := hb2.2 ⟨j, hj, hx⟩
        rw [h2] at this
        cases this
    · rintro ⟨_, _, _, _, q5⟩
      cases hb : b2 with
      | false => rfl
      | true =>
        obtain ⟨j, hj, h⟩ := hb2.1 hb
        exact absurd (q5 j hj) h
  all_goals
    rename_i hbad
    go_ret
    refine ⟨.inl ⟨rfl, ?_⟩, hB0⟩
    rintro ⟨q1, q2, q3, _, _⟩
    omega
end Rd
end Go.Proofs

/- What disk.Right answers, as an entry of the machine's table. -/
namespace Gm
open Go Go.Proofs Go.RowKit

/-- An entry that was walked by hand. -/
theorem hand_sound {f : FuncId} {β : Type} {ts : List Ty} {cod : Cod β} {F : Dens ts → (β → Prop) → Prop} (has : ((E.P.funcs[f]?).bind (·.body)).isSome = true)
    (h : ∀ x K, F x K → ∃ r, K r ∧ ∀ (S : Sit) (vs : Array Value), (∀ B o, S.F B o → B < S.w.heap.size) → Cs S (encA ts x) vs →
      Calls E.P f vs S.w (fun e w' => ∃ v a, e = .returned v ∧ Below S.w.heap.size S.w w' ∧ (∀ K', cod.enc r K' → K' a) ∧ ∀ T : Sit, Rv T a v)) : EntrySound E.P f (mkEntry ts cod F) := by
  refine ⟨callable_of num has, ?_⟩
  intro args K hK S vs hF hc
  unfold mkEntry at hK
  split at hK
  · rename_i x hx
    obtain ⟨e1, e2⟩ := decA_ok hx
    obtain ⟨r, hr, hrun⟩ := h x _ hK
    have hc' : Cs S (encA ts x) vs := by
      refine ⟨e1.trans hc.1, ?_⟩
      intro k b v hb hv
      have hk : k < vs.size := (Array.getElem?_eq_some_iff.1 hv).1
      have ha : args[k]? = some (args[k]'(by have := hc.1; omega)) := List.getElem?_eq_getElem _
      obtain ⟨b', hb', _, hw⟩ := e2 k _ ha
      have : some b = some b' := hb.symm.trans hb'
      cases this
      exact hw S v (hc.2 k _ v ha hv)
    refine (hrun S vs hF hc').mono ?_
    rintro e w' ⟨v, a, rfl, hB, hk, hv⟩
    have hX : Ext S { S with w := w' } := {
      le := ⟨fun B o h => h, fun B o u h hcell => by
        rw [cell_at] at hcell ⊢
        have := hB.block B (hF B o h)
        show (match w'.heap[B]? with | some (.cells c _ _) => c[o]? | _ => none) = some u
        rw [this]; exact hcell, fun _ _ => rfl, Nat.le_refl _⟩
      G := rfl
      N := rfl
      os := hB.os
      tape := hB.tape
      output := hB.output
      size := hB.size
      old := fun B h => hB.block B h
      F := fun B o h => .inl h }
    exact ⟨v, a, { S with w := w' }, rfl, rfl, hX, hv _, hk K hr⟩
  · exact hK.elim

def wRight (n : Nat) (w : Write) : Bool := decide (0 ≤ w.sector) && (decide (w.sector < n) && decide (w.data.length ≤ 64))
def rightV (d : Disk) : Bool := decide (1 ≤ d.sure.length) && (decide (d.sure.length ≤ 64) && (decide (0 ≤ d.fuse) && (d.sure.all (fun s => decide (s.length ≤ 64)) && d.cache.all (wRight d.sure.length))))

theorem size_list (b : ByteArray) : b.size = b.data.toList.length := by simp

theorem right_val {d : Disk} {sure : Nat → ByteArray} {sec : Nat → Int} {dat : Nat → ByteArray} {b : Bool}
    (hs : ∀ j (hj : j < d.sure.length), (sure j).data.toList = d.sure[j]) (hc : ∀ j (hj : j < d.cache.length), sec j = (d.cache[j]).sector ∧ (dat j).data.toList = (d.cache[j]).data)
    (h : b = true ↔ Rd.RightP d.sure.length d.fuse sure d.cache.length sec dat) : b = rightV d := by
  rw [Bool.eq_iff_iff, h]
  unfold Rd.RightP rightV wRight
  simp only [Bool.and_eq_true, decide_eq_true_eq, List.all_eq_true]
  constructor
  · rintro ⟨h1, h2, h3, h4, h5⟩
    refine ⟨h1, h2, h3, ?_, ?_⟩
    · intro s hm
      obtain ⟨j, hj, e⟩ := List.mem_iff_getElem.1 hm
      have := h4 j hj
      rw [size_list, hs j hj, e] at this
      omega
    · intro w hm
      obtain ⟨j, hj, e⟩ := List.mem_iff_getElem.1 hm
      have := h5 j hj
      rw [size_list, (hc j hj).1, (hc j hj).2, e] at this
      omega
  · rintro ⟨h1, h2, h3, h4, h5⟩
    refine ⟨h1, h2, h3, ?_, ?_⟩
    · intro j hj
      have := h4 d.sure[j] (List.getElem_mem hj)
      rw [size_list, hs j hj]
      omega
    · intro j hj
      have := h5 d.cache[j] (List.getElem_mem hj)
      rw [size_list, (hc j hj).1, (hc j hj).2]
      omega

namespace disk_Right
def F (d : Disk) (K : Bool → Prop) : Prop :=
  bif Nat.ble d.sure.length 140737488351232 && Nat.ble d.cache.length 140737488351232 then K (rightV d) else False
noncomputable def en : Entry := mkEntry [(.st 1)] (cTy .bool) fun x => F x.1
theorem det (d : Disk) : Det (F d) := by
  unfold F
  exact det_cond _ (det_ret _) det_false
theorem edet (args : List AV) : Det (en args) := mkEntry_det (ts := [(.st 1)]) (cod := cTy .bool) (F := fun x => F x.1) (fun x => det x.1) args
theorem has : ((E.P.funcs[57]?).bind (·.body)).isSome = true := by kernel_rfl
theorem sound : EntrySound E.P 57 en := by
  refine hand_sound (ts := [(.st 1)]) (cod := cTy .bool) (F := fun x => F x.1) has ?_
  intro x K hK
  unfold F at hK
  obtain ⟨g, hk⟩ : (Nat.ble x.1.sure.length 140737488351232 && Nat.ble x.1.cache.length 140737488351232) = true ∧ K (rightV x.1) := by
    cases hb : (Nat.ble x.1.sure.length 140737488351232 && Nat.ble x.1.cache.length 140737488351232) with
    | false => rw [hb] at hK; exact hK.elim
    | true => rw [hb] at hK; exact ⟨rfl, hK⟩
  simp only [Bool.and_eq_true] at g
  refine ⟨_, hk, ?_⟩
  intro S vs hF hc
  obtain ⟨hlen, hr⟩ := hc
  obtain ⟨v0, rfl⟩ : ∃ v0, vs = #[v0] := by
    obtain ⟨l⟩ := vs
    match l, hlen with
    | [a], _ => exact ⟨a, rfl⟩
  have r0 : Rv S (.agg [.sl .any .str x.1.sure, .sl .any (.st 0) x.1.cache, .int .i64 x.1.fuse, .bool x.1.dead]) v0 := hr 0 _ v0 rfl rfl
  cases r0 with
  | agg _ cs hl hcs =>
    obtain ⟨c0, c1, c2, c3, rfl⟩ : ∃ c0 c1 c2 c3, cs = #[c0, c1, c2, c3] := by
      obtain ⟨l⟩ := cs
      match l, hl with
      | [a, b, c, d], _ => exact ⟨a, b, c, d, rfl⟩
    obtain ⟨sa, scap, rfl, sure, hS, hs⟩ := rv_strings hF (hcs 0 _ c0 rfl rfl)
    obtain ⟨ca, ccap, rfl, sec, dat, hC, hcc⟩ := rv_writes hF (hcs 1 _ c1 rfl rfl)
    cases rv_int (hcs 2 _ c2 rfl rfl)
    cases rv_bool (hcs 3 _ c3 rfl rfl)
    have g1 := Nat.le_of_ble_eq_true g.1
    have g2 := Nat.le_of_ble_eq_true g.2
    have := callsIn_wide.1 (Rd.right_in Fence.wide 4 trivial trivial trivial trivial trivial trivial trivial trivial rfl (by decide) sa x.1.sure.length scap ca x.1.cache.length ccap x.1.fuse x.1.dead sure sec dat (by omega) (by omega) S.w hS hC)
    refine this.mono ?_
    rintro e w' ⟨⟨b, rfl, hb⟩, hB⟩
    have hv := right_val hs hcc hb
    subst hv
    exact ⟨_, .bool (rightV x.1), rfl, hB, fun K' h => h, fun T => .bool _⟩
end disk_Right
end Gm
