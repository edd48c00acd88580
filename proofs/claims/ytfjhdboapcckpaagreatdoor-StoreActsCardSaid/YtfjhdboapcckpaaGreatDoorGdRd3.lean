/- super.Decode as an entry: bytes shorter than a sum are refused; else as it was printed. -/
import Derived.Test.YtfjhdboapcckpaaGreatDoorGdNv
import Derived.Test.YtfjhdboapcckpaaGreatDoorGdU1
import Derived.RangeFuncBox
import Derived.RangeFuncLeaves
import Derived.RangeFuncNested
import Derived.Shelf.Abstract
import Derived.WalkKit
import Derived.OwnWalkIn
import Derived.TacticsInMore
import Derived.LoopNIn
import Derived.LoopIn
import Derived.Test.YtfjhdboapcckpaaGreatDoorProg
import Derived.Test.YtfjhdboapcckpaaGreatDoorGdE0
set_option maxRecDepth 100000
namespace Gm
open Go Go.Proofs Go.RowKit
def cThree (s t u : Ty) : Cod (s.den × t.den × u.den) where
  dec
    | .tup [a, b, c] => match dec s a, dec t b, dec u c with
      | some x, some y, some z => some (x, y, z)
      | _, _, _ => none
    | _ => none
  enc x K := K (.tup [enc s x.1, enc t x.2.1, enc u x.2.2])
  ok a x h K k := by
    split at h
    · rename_i a b c
      split at h
      · rename_i x y z hx hy hz
        cases h
        refine ⟨_, k, .tup _ (fun c hc => ?_), fun S v r => ?_⟩
        · rcases List.mem_cons.1 hc with rfl | hc
          · exact enc_closed' _ _
          · rcases List.mem_cons.1 hc with rfl | hc
            · exact enc_closed' _ _
            · rcases List.mem_cons.1 hc with rfl | hc
              · exact enc_closed' _ _
              · cases hc
        · cases r with
          | tup _ vs e hr =>
            refine .tup _ vs e ?_
            intro i d v hc hv
            match i with
            | 0 => cases hc; exact (hr 0 a v rfl hv).dec hx
            | 1 => cases hc; exact (hr 1 b v rfl hv).dec hy
            | 2 => cases hc; exact (hr 2 c v rfl hv).dec hz
      · cases h
    · cases h
  det x := det_ret _
namespace super_Dec
abbrev A := q23.A
abbrev C := q23.C
abbrev T := q23.T
def zs : Super := ⟨0, ⟨0, 0, 0, 0⟩, false, false, false⟩
def F (b : Str) (K : (Super × Int) → Prop) : Prop := bif Nat.blt b.length 4 then K (zs, 2) else q23.F b K
noncomputable def en : Entry := mkEntry A C fun x => F x.1
theorem has : ((E.P.funcs[112]?).bind (·.body)).isSome = true := by kernel_rfl
theorem sound : EntrySound E 112 en := by
  refine ⟨callable_of num has, ?_⟩
  intro args K hK S vs hF hv hc
  unfold en mkEntry at hK
  split at hK
  · rename_i x hx
    unfold F at hK
    cases hb : Nat.blt x.1.length 4 with
    | false =>
      rw [hb] at hK
      refine q23.sound.2 args K ?_ S vs hF hv hc
      unfold q23.en mkEntry
      rw [hx]
      exact hK
    | true =>
      rw [hb] at hK
      obtain ⟨e1, e2⟩ := decA_ok hx
      obtain ⟨v, rfl, rv⟩ : ∃ v, vs = #[v] ∧ Rv S (.str x.1) v := by
        obtain ⟨hlen, hr⟩ := hc
        have e1' : args.length = 1 := e1.symm
        obtain ⟨v0, rfl⟩ : ∃ v0, vs = #[v0] := by
          obtain ⟨l⟩ := vs
          match l, (hlen.symm.trans e1' : (Array.mk l).size = 1) with
          | [a], _ => exact ⟨a, rfl⟩
        have ha : args[0]? = some (args[0]'(by omega)) := List.getElem?_eq_getElem _
        obtain ⟨b', hb', _, hw⟩ := e2 0 _ ha
        have hb' : some (AV.str x.1) = some b' := hb'
        cases hb'
        exact ⟨v0, rfl, hw S v0 (hr 0 _ v0 ha rfl)⟩
      cases rv with
      | str s b e =>
        have hl : b.size < 4 := by
          have h1 : x.1.length + 1 ≤ 4 := Nat.le_of_ble_eq_true hb
          rw [← e] at h1
          have h2 : b.data.toList.length = b.size := Array.length_toList
          omega
        have h := As.Decode_short b hl S.w hv
        refine h.mono ?_
        rintro e w' ⟨rfl, hB⟩
        have hX : Ext S { S with w := w' } := {
          le := ⟨fun B o h => h, fun B o u h hcell => by
            rw [cell_at] at hcell ⊢
            have := hB.block B (hF B o h)
            show (match w'.heap[B]? with | some (.cells c _ _) => c[o]? | _ => none) = some u
            rw [this]; exact hcell, fun _ _ => rfl, Nat.le_refl _⟩
          G := rfl
          N := rfl
          os := hB.os
          tape := hB.tape
          output := hB.output
          size := hB.size
          old := fun B h => hB.block B h
          F := fun B o h => .inl h }
        refine ⟨_, _, { S with w := w' }, rfl, rfl, hX, ?_, hK⟩
        refine .tup _ _ rfl ?_
        intro k a u ha hu
        match k with
        | 0 =>
          simp at ha hu
          subst ha
          subst hu
          refine .agg _ _ rfl ?_
          intro k a u ha hu
          match k with
          | 0 | 1 | 2 | 3 | 4 => cases ha; cases hu; exact .int _ _
          | 5 | 6 | 7 => cases ha; cases hu; exact .bool _
          | k + 8 => cases ha
        | 1 => simp at ha hu; subst ha; subst hu; exact .int _ _
        | k + 2 => simp at ha
  · exact hK.elim
end super_Dec
end Gm

namespace Go.Proofs
open Go.RowKit Go.Shelf
attribute [local go_sem] Oper.semAt_some
namespace Rd
def upto {α : Type} (f : Nat → α) (k : Nat) : List α := (List.range k).map f
theorem upto_succ {α : Type} (f : Nat → α) (k : Nat) : upto f (k + 1) = upto f k ++ [f k] := by simp [upto, List.range_succ]
theorem upto_length {α : Type} (f : Nat → α) (k : Nat) : (upto f k).length = k := by simp [upto]
abbrev El := Nat × Int × ByteArray
def args (x : El) : Array Value := #[.int .i64 (x.1 : Int), .agg #[.int .i64 x.2.1, .string x.2.2]]
set_option maxRecDepth 100000 in
set_option maxHeartbeats 4000000 in
theorem back1_in (F : Fence) (n : Nat) (h8 : F.fn 188) (hro : F.round = none) (hn : 1 ≤ n) (l Bs n₀ b off len cap : Nat) (sec : Nat → Int) (dat : Nat → ByteArray) (hreach : len * 24 ≤ 140737488351232) (hb : b < n₀) (J Jx : List El → World → Prop)
    (hY : ∀ pre (x : El) W, J pre W → pre.length < len → YieldAt F (n - 1) Tryz.prog l (args x) W fun e W' =>
      (e = .returned (.bool true) ∧ J (pre ++ [x]) W' ∧ Below n₀ W W') ∨ (e = .returned (.bool false) ∧ Jx (pre ++ [x]) W'))
    (W : World) (hBs : W.cell? ⟨Bs, 0, none⟩ = some (.slice (some ⟨b, off, none⟩) len cap)) (hBn : Bs < n₀)
    (hc : ∀ j, j < len → W.cell? ⟨b, off + j * 2, none⟩ = some (.int .i64 (sec j)) ∧ W.cell? ⟨b, off + j * 2 + 1, none⟩ = some (.string (dat j))) (h0 : J [] W) :
    CallsIn F n Tryz.prog 188 #[.func (.yield l) #[] #[], .pointer (some ⟨Bs, 0, none⟩)] W fun e W' => (∃ v, e = .returned v) ∧
      ((J (upto (fun j => (len - 1 - j, sec (len - 1 - j), dat (len - 1 - j))) len) W') ∨ (∃ k, k ≤ len ∧ Jx (upto (fun j => (len - 1 - j, sec (len - 1 - j), dat (len - 1 - j))) k) W')) := by
  refine callsIn_of_wp Tryz.func188 rfl h8 ?_ hro
  simp only [Tryz.ntmps188, List.size_toArray, List.length_cons, List.length_nil, Nat.reduceAdd, Nat.reduceSub, Array.replicate_succ, Array.replicate_zero, List.push_toArray, List.append_toArray, List.nil_append, List.cons_append]
  gi_wp2
  gi_loopw [3] (fun i wr => ∃ k : Nat, k ≤ len ∧ i = .int .i64 ((len : Int) - 1 - k) ∧ J (upto (fun j => (len - 1 - j, sec (len - 1 - j), dat (len - 1 - j))) k) wr ∧ Below n₀ W wr)
    (fun i _ => (intOf i + 1).toNat)
  case atStart => exact ⟨0, Nat.zero_le _, by simp, h0, Below.refl _ _⟩
  case round =>
    obtain ⟨k, hk, rfl, hJs, hnx⟩ := hrel
    have hcB : wr.cell? ⟨Bs, 0, none⟩ = some (.slice (some ⟨b, off, none⟩) len cap) := (hnx.cell (p := ⟨Bs, 0, none⟩) hBn).trans hBs
    by_cases hlt : k < len
    · obtain ⟨m, hm⟩ : ∃ m : Nat, m + k + 1 = len := ⟨len - 1 - k, by omega⟩
      have hmi : ((len : Int) - 1 - k) = (m : Int) := by omega
      rw [hmi]
      have hml : m < len := by omega
      have hcx : wr.cell? ⟨b, off + m * 2, none⟩ = some (.int .i64 (sec m)) := (hnx.cell (p := ⟨b, off + m * 2, none⟩) hb).trans (hc m hml).1
      have hcy : wr.cell? ⟨b, off + m * 2 + 1, none⟩ = some (.string (dat m)) := (hnx.cell (p := ⟨b, off + m * 2 + 1, none⟩) hb).trans (hc m hml).2
      obtain ⟨fn, tmps, assign, body, hy, hR⟩ := hY _ (m, sec m, dat m) wr hJs (by rw [upto_length]; exact hlt)
      dsimp only [args] at hy
      have hmk : len - 1 - k = m := by omega
      clear hm
      gi_wp2
      refine hR.mono ?_
      rintro e W3 (⟨rfl, hJ3, hk3⟩ | ⟨rfl, hJx3⟩)
      · gi_wp2
        go_roundw
        case rel => exact ⟨k + 1, by omega, by simp; omega, by rw [upto_succ, hmk]; exact hJ3, hnx.trans hk3⟩
        case measure => simp [intOf]
      · gi_wp2
        refine bodyPost_ret (results_none rfl _ _ _) rfl ?_
        exact ⟨⟨_, rfl⟩, .inr ⟨k + 1, by omega, by rw [upto_succ, hmk]; exact hJx3⟩⟩
    · obtain rfl : k = len := by omega
      have e1 : ((k : Int) - 1 - k) = -1 := by omega
      rw [e1]
      gi_wp2
      go_end0
      exact ⟨⟨_, rfl⟩, .inl hJs⟩
set_option maxRecDepth 100000 in
set_option maxHeartbeats 1000000 in
theorem back1_nil_in (F : Fence) (n : Nat) (h8 : F.fn 188) (hro : F.round = none) (l Bs : Nat) (a : Option Addr) (cap : Nat) (J : List El → World → Prop) (W : World) (hBs : W.cell? ⟨Bs, 0, none⟩ = some (.slice a 0 cap)) (h0 : J [] W) :
    CallsIn F n Tryz.prog 188 #[.func (.yield l) #[] #[], .pointer (some ⟨Bs, 0, none⟩)] W fun e W' => (∃ v, e = .returned v) ∧ J [] W' := by
  refine callsIn_of_wp Tryz.func188 rfl h8 ?_ hro
  simp only [Tryz.ntmps188, List.size_toArray, List.length_cons, List.length_nil, Nat.reduceAdd, Nat.reduceSub, Array.replicate_succ, Array.replicate_zero, List.push_toArray, List.append_toArray, List.nil_append, List.cons_append]
  gi_wp2
  gi_loopw [3] (fun i wr => i = .int .i64 (-1) ∧ J [] wr) (fun _ _ => 0)
  case atStart => exact ⟨rfl, h0⟩
  case round =>
    obtain ⟨rfl, hJs⟩ := hrel
    gi_wp2
    go_end0
    exact ⟨⟨_, rfl⟩, hJs⟩
set_option maxHeartbeats 1000000 in
theorem back_in (F : Fence) (n : Nat) (h5 : F.fn 155) (hro : F.round = none) (a : Option Addr) (len cap : Nat) (w : World) :
    CallsIn F n Tryz.prog 155 #[.slice a len cap] w fun e w' => e = .returned (.func (.func 188) #[] #[.pointer (some ⟨w.heap.size, 0, none⟩)]) ∧ w' = w.alloc (.cells #[.slice a len cap] 28) := by
  refine callsIn_of_wp Tryz.func155 rfl h5 ?_ hro
  simp only [Tryz.ntmps155, List.size_toArray, List.length_cons, List.length_nil, Nat.reduceAdd, Nat.reduceSub, Array.replicate_succ, Array.replicate_zero, List.push_toArray, List.append_toArray, List.nil_append, List.cons_append]
  gi_wp2
  go_ret
  exact ⟨rfl, rfl⟩
def Ws (n₀ : Nat) (W : World) (sv : Value) (len : Nat) (sec : Nat → Int) (dat : Nat → ByteArray) : Prop :=
  (∃ a cap, sv = .slice a 0 cap ∧ len = 0) ∨ ∃ b off cap, sv = .slice (some ⟨b, off, none⟩) len cap ∧ b < n₀ ∧ ∀ j, j < len → W.cell? ⟨b, off + j * 2, none⟩ = some (.int .i64 (sec j)) ∧ W.cell? ⟨b, off + j * 2 + 1, none⟩ = some (.string (dat j))
theorem Ws.below {n₀ : Nat} {A B : World} (h : Below n₀ A B) {sv : Value} {len : Nat} {sec : Nat → Int} {dat : Nat → ByteArray} : Ws n₀ A sv len sec dat → Ws n₀ B sv len sec dat
  | .inl e => .inl e
  | .inr ⟨b, off, cap, e, hb, hc⟩ => .inr ⟨b, off, cap, e, hb, fun j hj => ⟨(h.cell (p := ⟨b, off + j * 2, none⟩) hb).trans (hc j hj).1, (h.cell (p := ⟨b, off + j * 2 + 1, none⟩) hb).trans (hc j hj).2⟩⟩
abbrev els (len : Nat) (sec : Nat → Int) (dat : Nat → ByteArray) (j : Nat) : El := (len - 1 - j, sec (len - 1 - j), dat (len - 1 - j))
theorem back_stops (F : Fence) (n : Nat) (h7 : F.fn 188) (hro : F.round = none) (hn : 1 ≤ n) (Bs n₀ : Nat) (sv : Value) (len : Nat) (sec : Nat → Int) (dat : Nat → ByteArray) (hreach : len * 24 ≤ 140737488351232) (w : World) (hBs : Bs < w.heap.size) (hn₀ : n₀ ≤ w.heap.size)
    (hBn : Bs < n₀) (hc : w.cell? ⟨Bs, 0, none⟩ = some sv) (hI : Ws n₀ w sv len sec dat) :
    SeqStopsK F n Tryz.prog 188 #[.pointer (some ⟨Bs, 0, none⟩)] args (Below n₀) (fun ys => ys = upto (els len sec dat) len) (fun pre => ∃ k, k ≤ len ∧ pre = upto (els len sec dat) k) len w := fun l J Jx W hW _ _ hY h0 => by
  have hc' := (hW.cell (p := ⟨Bs, 0, none⟩) hBs).trans hc
  rcases hI.below (hW.mono hn₀) with ⟨a, cap, rfl, rfl⟩ | ⟨b, off, cap, rfl, hb, hcs⟩
  · exact (back1_nil_in F n h7 hro l Bs a cap J W hc' h0).mono fun e W' ⟨he, hj⟩ => ⟨he, .inl ⟨_, rfl, hj⟩⟩
  · refine (back1_in F n h7 hro hn l Bs n₀ b off len cap sec dat hreach hb J Jx hY W hc' hBn hcs h0).mono ?_
    rintro e W' ⟨he, hj | ⟨k, hk, hj⟩⟩
    · exact ⟨he, .inl ⟨_, rfl, hj⟩⟩
    · exact ⟨he, .inr ⟨_, ⟨k, hk, rfl⟩, hj⟩⟩
end Rd
end Go.Proofs

namespace Go.Proofs
open Go.RowKit Go.Shelf
attribute [local go_sem] Oper.semAt_some
namespace Rd
set_option maxHeartbeats 4000000 in
set_option maxRecDepth 100000 in
theorem there_in (F : Fence) (n : Nat) (h : F.fn 149) (hro : F.round = none) (sa : Option Addr) (ns cap : Nat) (cv fv dv : Value) (i : Int) (w : World) :
    CallsIn F n Tryz.prog 149 #[.agg #[.slice sa ns cap, cv, fv, dv], .int .i64 i] w fun e w' => e = .returned (.bool (decide (0 ≤ i ∧ i < ns))) ∧ w' = w.alloc (.cells #[.slice sa ns cap, cv, fv, dv] 30) := by
  refine callsIn_of_wp Tryz.func149 rfl h ?_ hro
  simp only [Tryz.ntmps149, List.size_toArray, List.length_cons, List.length_nil, Nat.reduceAdd, Nat.reduceSub, Array.replicate_succ, Array.replicate_zero, List.push_toArray, List.append_toArray, List.nil_append, List.cons_append]
  gi_wp2
  all_goals go_ret
  · rename_i h1
    exact ⟨by simp [h1], rfl⟩
  · rename_i h1
    have h2 : ¬ 0 ≤ i := by omega
    exact ⟨by simp [h2], rfl⟩
def Ss (n₀ : Nat) (W : World) (sv : Value) (ns : Nat) (sure : Nat → ByteArray) : Prop :=
  (∃ a cap, sv = .slice a 0 cap ∧ ns = 0) ∨ ∃ b off cap, sv = .slice (some ⟨b, off, none⟩) ns cap ∧ b < n₀ ∧ ∀ j, j < ns → W.cell? ⟨b, off + j, none⟩ = some (.string (sure j))
def ans (s : ByteArray) (c : Int) : Value := .tuple #[.string s, .int .i64 c]
def Post (dead : Bool) (i : Int) (ns : Nat) (sure : Nat → ByteArray) (len : Nat) (sec : Nat → Int) (dat : Nat → ByteArray) (v : Value) : Prop :=
  (dead = true ∧ v = ans ByteArray.empty 6) ∨ (dead = false ∧ ¬ (0 ≤ i ∧ i < ns) ∧ v = ans ByteArray.empty 4) ∨
  (dead = false ∧ 0 ≤ i ∧ i < ns ∧ ((∃ m, m < len ∧ sec m = i ∧ (∀ j, m < j → j < len → sec j ≠ i) ∧ v = ans (dat m) 0) ∨ ((∀ j, j < len → sec j ≠ i) ∧ v = ans (sure i.toNat) 0)))
theorem cell_of_heap {W : World} {B o : Nat} {cs : Array Value} {t : TypeId} (h : W.heap[B]? = some (.cells cs t (0, 0))) : W.cell? ⟨B, o, none⟩ = cs[o]? := by simp [World.cell?, h]
theorem frozen_of_heap {W : World} {B o : Nat} {cs : Array Value} {t : TypeId} (h : W.heap[B]? = some (.cells cs t (0, 0))) : W.frozen? ⟨B, o, none⟩ = false := by simp [World.frozen?, h]
theorem heap_old {W : World} {o : Obj} {B : Nat} {x : Obj} (h : W.heap[B]? = some x) : (W.alloc o).heap[B]? = some x := (Below.heap_alloc W o B (Array.getElem?_eq_some_iff.1 h).1).trans h
theorem heap_new {W : World} {o : Obj} {B : Nat} (h : B = W.heap.size) : (W.alloc o).heap[B]? = some o := by subst h; exact World.alloc_heap_new W o
theorem six {w W0 : World} {o0 o1 o2 o3 o4 o5 : Obj} (h : (((((w.alloc o0).alloc o1).alloc o2).alloc o3).alloc o4).alloc o5 = W0) : W0.heap.size = w.heap.size + 6 ∧ W0.heap[w.heap.size]? = some o0 ∧ W0.heap[w.heap.size + 1]? = some o1 ∧
    W0.heap[w.heap.size + 1 + 1]? = some o2 ∧ W0.heap[w.heap.size + 1 + 1 + 1]? = some o3 ∧ W0.heap[w.heap.size + 1 + 1 + 1 + 1]? = some o4 ∧ W0.heap[w.heap.size + 1 + 1 + 1 + 1 + 1]? = some o5 ∧ Below w.heap.size w W0 := by
  subst h
  refine ⟨by simp, heap_old (heap_old (heap_old (heap_old (heap_old (heap_new rfl))))), heap_old (heap_old (heap_old (heap_old (heap_new (by simp))))), heap_old (heap_old (heap_old (heap_new (by simp)))), heap_old (heap_old (heap_new (by simp))),
    heap_old (heap_new (by simp)), heap_new (by simp), ?_⟩
  exact ((((((Below.refl _ w).alloc (Nat.le_refl _) _).alloc (by simp) _).alloc (by simp; omega) _).alloc (by simp; omega) _).alloc (by simp; omega) _).alloc (by simp; omega) _
def NoSec (i : Int) (pre : List El) : Prop := ∀ x ∈ pre, x.2.1 ≠ i
def Hit (i : Int) (s : Nat) (pre : List El) (W : World) : Prop := ∃ ini last, pre = ini ++ [last] ∧ NoSec i ini ∧ last.2.1 = i ∧ W.cell? ⟨s + 1 + 1, 0, none⟩ = some (.string last.2.2) ∧ W.cell? ⟨s + 1 + 1 + 1, 0, none⟩ = some (.int .i64 0)
set_option maxHeartbeats 4000000 in
set_option maxRecDepth 100000 in
theorem read_in (F : Fence) (n : Nat) (h62 : F.fn 111) (h101 : F.fn 149) (h108 : F.fn 155) (h124 : F.fn 188) (hro : F.round = none) (hn : 3 ≤ n) (sa : Option Addr) (ns scap : Nat) (ca : Option Addr) (len ccap : Nat) (fuse : Int) (dead : Bool) (i : Int)
    (sure : Nat → ByteArray) (sec : Nat → Int) (dat : Nat → ByteArray) (hreach : len * 24 ≤ 140737488351232) (w : World) (hS : Ss w.heap.size w (.slice sa ns scap) ns sure) (hC : Ws w.heap.size w (.slice ca len ccap) len sec dat) :
    CallsIn F n Tryz.prog 111 #[.agg #[.slice sa ns scap, .slice ca len ccap, .int .i64 fuse, .bool dead], .int .i64 i] w fun e w' => (∃ v, e = .returned v ∧ Post dead i ns sure len sec dat v) ∧ Below w.heap.size w w' := by
  have h1 : 1 ≤ n := by omega
  refine callsIn_of_wp_marks Tryz.func111 rfl h62 ?_ hro
  simp only [Tryz.ntmps111, List.size_toArray, List.length_cons, List.length_nil, Nat.reduceAdd, Nat.reduceSub, Array.replicate_succ, Array.replicate_zero, List.push_toArray, List.append_toArray, List.nil_append, List.cons_append]
  gi_wp2_with (first | (gi_at_call 149; refine (there_in F (n - 1) h101 hro _ _ _ _ _ _ _ _).mono ?_; rintro e w1 ⟨rfl, rfl⟩) | (gi_at_call 155; refine (back_in F (n - 1) h108 hro _ _ _ _).mono ?_; rintro e w2 ⟨rfl, rfl⟩))
  · rename_i hd
    refine ⟨ans ByteArray.empty 6, ?_, ⟨_, rfl, .inl ⟨hd, rfl⟩⟩, ((((Below.refl _ w).alloc (Nat.le_refl _) _).alloc (by simp) _).alloc (by simp; omega) _).alloc (by simp; omega) _⟩
    have e5 : ((((w.alloc (.cells #[.slice sa ns scap, .slice ca len ccap, .int .i64 fuse, .bool true] 30)).alloc (.cells #[.int .i64 i] 3)).alloc (.cells #[.string ⟨#[]⟩] 9)).alloc (.cells #[.int .i64 6] 57)).cell? ⟨w.heap.size + 1 + 1, 0, none⟩ = some (.string ⟨#[]⟩) := by
      refine (cell_of_heap (cs := #[.string ⟨#[]⟩]) (t := 9) (heap_old ?_)).trans rfl
      have := World.alloc_heap_new ((w.alloc (.cells #[.slice sa ns scap, .slice ca len ccap, .int .i64 fuse, .bool true] 30)).alloc (.cells #[.int .i64 i] 3)) (.cells #[.string ⟨#[]⟩] 9)
      simpa using this
    have e6 : ((((w.alloc (.cells #[.slice sa ns scap, .slice ca len ccap, .int .i64 fuse, .bool true] 30)).alloc (.cells #[.int .i64 i] 3)).alloc (.cells #[.string ⟨#[]⟩] 9)).alloc (.cells #[.int .i64 6] 57)).cell? ⟨w.heap.size + 1 + 1 + 1, 0, none⟩ = some (.int .i64 6) := by
      refine (cell_of_heap (cs := #[.int .i64 6]) (t := 57) ?_).trans rfl
      have := World.alloc_heap_new (((w.alloc (.cells #[.slice sa ns scap, .slice ca len ccap, .int .i64 fuse, .bool true] 30)).alloc (.cells #[.int .i64 i] 3)).alloc (.cells #[.string ⟨#[]⟩] 9)) (.cells #[.int .i64 6] 57)
      simpa using this
    simp [results, Tryz.f111, go_sem, e5, e6]
    rfl
  · rename_i hd
    have hr : ¬ (0 ≤ i ∧ i < ns) := by
      rintro ⟨h2, h3⟩
      simp [h2, h3] at hd
    refine ⟨ans ByteArray.empty 4, ?_, ⟨_, rfl, .inr (.inl ⟨by assumption, hr, rfl⟩)⟩, (((((Below.refl _ w).alloc (Nat.le_refl _) _).alloc (by simp) _).alloc (by simp; omega) _).alloc (by simp; omega) _).alloc (by simp; omega) _⟩
    have e5 : (((((w.alloc (.cells #[.slice sa ns scap, .slice ca len ccap, .int .i64 fuse, .bool false] 30)).alloc (.cells #[.int .i64 i] 3)).alloc (.cells #[.string ⟨#[]⟩] 9)).alloc (.cells #[.int .i64 4] 57)).alloc (.cells #[.slice sa ns scap, .slice ca len ccap, .int .i64 fuse, .bool false] 30)).cell? ⟨w.heap.size + 1 + 1, 0, none⟩ = some (.string ⟨#[]⟩) :=
      (cell_of_heap (cs := #[.string ⟨#[]⟩]) (t := 9) (heap_old (heap_old (heap_new (by simp))))).trans rfl
    have e6 : (((((w.alloc (.cells #[.slice sa ns scap, .slice ca len ccap, .int .i64 fuse, .bool false] 30)).alloc (.cells #[.int .i64 i] 3)).alloc (.cells #[.string ⟨#[]⟩] 9)).alloc (.cells #[.int .i64 4] 57)).alloc (.cells #[.slice sa ns scap, .slice ca len ccap, .int .i64 fuse, .bool false] 30)).cell? ⟨w.heap.size + 1 + 1 + 1, 0, none⟩ = some (.int .i64 4) :=
      (cell_of_heap (cs := #[.int .i64 4]) (t := 57) (heap_old (heap_new (by simp)))).trans rfl
    simp [results, Tryz.f111, go_sem, e5, e6]
    rfl
  · obtain ⟨W0, hW0⟩ : ∃ W0, (((((((w.alloc (.cells #[.slice sa ns scap, .slice ca len ccap, .int .i64 fuse, .bool false] 30)).alloc (.cells #[.int .i64 i] 3)).alloc (.cells #[.string ⟨#[]⟩] 9)).alloc (.cells #[.int .i64 0] 57)).alloc (.cells #[.slice sa ns scap, .slice ca len ccap, .int .i64 fuse, .bool false] 30))).alloc (.cells #[.slice ca len ccap] 28)) = W0 := ⟨_, rfl⟩
    rw [hW0]
    obtain ⟨hsz, g0, g1, g2, g3, g4, g5, hB0⟩ := six hW0
    clear hW0
    have hdead : dead = false := by assumption
    have hrange : 0 ≤ i ∧ i < ns := by
      have h2 : (!decide (0 ≤ i)) = false ∧ (!decide (i < (ns : Int))) = false := by assumption
      simpa using h2
    refine wpIn_rangeFunc_ownH hro h1 (gf := 188) (lb := #[.pointer (some ⟨w.heap.size + 1 + 1 + 1 + 1 + 1, 0, none⟩)]) rfl h124 (enters_of Tryz.func188 (by kernel_rfl) rfl)
      (back_stops F (n - 1) h124 hro (by omega) (w.heap.size + 1 + 1 + 1 + 1 + 1) W0.heap.size _ len sec dat hreach W0 (by omega) (Nat.le_refl _) (by omega) (cell_of_heap g5) ?hWs) belowK_t (belowK_b (Nat.le_refl _)) (Below.refl _ _) (fun _ => rfl)
      (fun pre W => NoSec i pre ∧ Below W0.heap.size W0 W)
      (fun c pre W => (c = .ret ∧ Hit i w.heap.size pre W) ∧ Below w.heap.size w W)
      (OwnFrom.and (Own.from (fun s A B row hs hg hr => hs) _) (ownFrom_below (Nat.le_refl _) (Nat.le_refl _)))
      (fun c => OwnFrom.and (Own.from (fun s A B row hs hg hr => by obtain ⟨hc, ini, last, e1, e2, e3, e4, e5⟩ := hs; exact ⟨hc, ini, last, e1, e2, e3, cell_kept e4 hg hr, cell_kept e5 hg hr⟩) _) (ownFrom_below (Nat.le_refl _) (by omega)))
      ⟨(fun x hx => by cases hx), Below.refl _ _⟩
      (fun x a' W => ∃ B, W0.heap.size ≤ B ∧ a' = { tmps := #[.agg #[.slice sa ns scap, .slice ca len ccap, .int .i64 fuse, .bool false],
          .int .i64 i, .pointer (some { block := w.heap.size, off := 0 }), .pointer (some { block := w.heap.size + 1, off := 0 }), .pointer (some { block := w.heap.size + 1 + 1, off := 0 }),
          .pointer (some { block := w.heap.size + 1 + 1 + 1, off := 0 }), undef, .pointer (some ⟨B, 0, none⟩), .bool false, .pointer (some { block := w.heap.size, off := 3 }), .bool false, .bool false,
          .agg #[.slice sa ns scap, .slice ca len ccap, .int .i64 fuse, .bool false], .int .i64 i, .bool true, .bool false,
          .pointer (some { block := w.heap.size, off := 1 }), .slice ca len ccap, .func (.func 188) #[] #[.pointer (some { block := w.heap.size + 1 + 1 + 1 + 1 + 1, off := 0 })],
          .int .i64 (x.1 : Int), .agg #[.int .i64 x.2.1, .string x.2.2], undef, undef, undef, undef, undef, undef, undef, undef, undef, undef, undef], defers := [] } ∧
          W.cell? ⟨B, 0, none⟩ = some (.int .i64 x.2.1) ∧ W.cell? ⟨B, 1, none⟩ = some (.string x.2.2))
      (fun x a' s A B row hs hg hr => by obtain ⟨b, h1, h2, h3, h4⟩ := hs; exact ⟨b, h1, h2, cell_kept h3 hg (fun r e => (hr r e).2), cell_kept h4 hg (fun r e => (hr r e).2)⟩) ?assign ?body ?done ?stop
    case hWs =>
      rcases hC with h | ⟨b, off, cap, e, hb, hc⟩
      · exact .inl h
      · exact .inr ⟨b, off, cap, e, by omega, fun j hj => ⟨(hB0.cell (p := ⟨b, off + j * 2, none⟩) hb).trans (hc j hj).1, (hB0.cell (p := ⟨b, off + j * 2 + 1, none⟩) hb).trans (hc j hj).2⟩⟩
    case assign =>
      rintro l pre ⟨m, sc, da⟩ W K ⟨hp, hB⟩ hK
      simp only [args]
      gi_wp2
      exact hK _ _ ((KeepsOthers.alloc _ _).from _) ((Below.refl _ W).alloc hB.size _) ⟨hp, hB.alloc hB.size _⟩ ⟨W.heap.size, hB.size, rfl, (cell_of_heap (heap_new rfl)).trans rfl, (cell_of_heap (heap_new rfl)).trans rfl⟩
    case body =>
      rintro l pre ⟨m, sc, da⟩ a' W hl ⟨rec, hrec⟩ ⟨hp, hB⟩ ⟨B, hBn, rfl, hc0, hc1⟩ hlen
      have k1 : W.cell? ⟨w.heap.size + 1, 0, none⟩ = some (.int .i64 i) := (hB.cell (p := ⟨w.heap.size + 1, 0, none⟩) (by show w.heap.size + 1 < _; omega)).trans ((cell_of_heap g1).trans rfl)
      have k2 : W.cell? ⟨w.heap.size + 1 + 1, 0, none⟩ = some (.string ⟨#[]⟩) := (hB.cell (p := ⟨w.heap.size + 1 + 1, 0, none⟩) (by show w.heap.size + 1 + 1 < _; omega)).trans ((cell_of_heap g2).trans rfl)
      have k3 : W.cell? ⟨w.heap.size + 1 + 1 + 1, 0, none⟩ = some (.int .i64 0) := (hB.cell (p := ⟨w.heap.size + 1 + 1 + 1, 0, none⟩) (by show w.heap.size + 1 + 1 + 1 < _; omega)).trans ((cell_of_heap g3).trans rfl)
      have f2 : W.frozen? ⟨w.heap.size + 1 + 1, 0, none⟩ = false := (hB.frozen (p := ⟨w.heap.size + 1 + 1, 0, none⟩) (by show w.heap.size + 1 + 1 < _; omega)).trans (frozen_of_heap g2)
      have f3 : W.frozen? ⟨w.heap.size + 1 + 1 + 1, 0, none⟩ = false := (hB.frozen (p := ⟨w.heap.size + 1 + 1 + 1, 0, none⟩) (by show w.heap.size + 1 + 1 + 1 < _; omega)).trans (frozen_of_heap g3)
      gi_wp2
      · rename_i hsc
        have hBw : Below w.heap.size w W := hB0.trans (hB.mono (by omega))
        refine ⟨((KeepsOthers.setCell _ _ _).trans (KeepsOthers.setCell _ _ _)).from _, ⟨rfl, pre, (m, sc, da), rfl, hp, by simpa using hsc, ?_, ?_⟩, (hBw.setCell (p := ⟨w.heap.size + 1 + 1, 0, none⟩) (by show w.heap.size ≤ w.heap.size + 1 + 1; omega) _).setCell (p := ⟨w.heap.size + 1 + 1 + 1, 0, none⟩) (by show w.heap.size ≤ w.heap.size + 1 + 1 + 1; omega) _⟩
        · exact (World.cell?_setCell_other _ _ _ _ (fun e => by simp at e)).trans (World.cell?_setCell_same' _ _ _ (by rw [k2]; rfl))
        · exact World.cell?_setCell_same' _ _ _ (by rw [World.cell?_setCell_other _ _ _ _ (fun e => by simp at e), k3]; rfl)
      · rename_i hsc
        have hne : sc ≠ i := by simpa using hsc
        refine ⟨KeepsFrom.refl _ _, Below.refl _ _, ?_, hsz ▸ hB⟩
        intro x hx
        rcases List.mem_append.1 hx with h | h
        · exact hp x h
        · simp at h; subst h; exact hne
    case done =>
      rintro D xs W hD rfl ⟨hp, hB⟩ hK
      have q0 : W.heap[w.heap.size]? = some (.cells #[.slice sa ns scap, .slice ca len ccap, .int .i64 fuse, .bool false] 30 (0, 0)) := (hB.block _ (by omega)).trans g0
      have q1 : W.heap[w.heap.size + 1]? = some (.cells #[.int .i64 i] 3 (0, 0)) := (hB.block _ (by omega)).trans g1
      have q2 : W.heap[w.heap.size + 1 + 1]? = some (.cells #[.string ⟨#[]⟩] 9 (0, 0)) := (hB.block _ (by omega)).trans g2
      have q3 : W.heap[w.heap.size + 1 + 1 + 1]? = some (.cells #[.int .i64 0] 57 (0, 0)) := (hB.block _ (by omega)).trans g3
      have k0 : W.cell? ⟨w.heap.size, 0, none⟩ = some (.slice sa ns scap) := (cell_of_heap q0).trans rfl
      have k1 : W.cell? ⟨w.heap.size + 1, 0, none⟩ = some (.int .i64 i) := (cell_of_heap q1).trans rfl
      have k2 : W.cell? ⟨w.heap.size + 1 + 1, 0, none⟩ = some (.string ⟨#[]⟩) := (cell_of_heap q2).trans rfl
      have k3 : W.cell? ⟨w.heap.size + 1 + 1 + 1, 0, none⟩ = some (.int .i64 0) := (cell_of_heap q3).trans rfl
      have f2 : W.frozen? ⟨w.heap.size + 1 + 1, 0, none⟩ = false := frozen_of_heap q2
      have f3 : W.frozen? ⟨w.heap.size + 1 + 1 + 1, 0, none⟩ = false := frozen_of_heap q3
      obtain ⟨k, rfl⟩ : ∃ k : Nat, i = k := ⟨i.toNat, by omega⟩
      have hkn : k < ns := by omega
      rcases hS with ⟨a, cap, e, h0⟩ | ⟨b, off, cap, e, hb, hc⟩
      · omega
      · cases e
        have hBw : Below w.heap.size w W := hB0.trans (hB.mono (by omega))
        have ks : W.cell? ⟨b, off + k, none⟩ = some (.string (sure k)) := (hBw.cell (p := ⟨b, off + k, none⟩) hb).trans (hc k hkn)
        gi_wp2
        have hK' := ((KeepsOthers.setCell W ⟨w.heap.size + 1 + 1, 0, none⟩ (.string (sure k))).trans (KeepsOthers.setCell _ ⟨w.heap.size + 1 + 1 + 1, 0, none⟩ (.int .i64 0))).same D _ hK rfl
        refine ⟨by simp, .inl ⟨_, _, rfl, run_takeDeferred hK', ?_⟩⟩
        have c5 : ((W.setCell ⟨w.heap.size + 1 + 1, 0, none⟩ (.string (sure k))).setCell ⟨w.heap.size + 1 + 1 + 1, 0, none⟩ (.int .i64 0)).cell? ⟨w.heap.size + 1 + 1, 0, none⟩ = some (.string (sure k)) :=
          (World.cell?_setCell_other _ _ _ _ (fun e => by simp at e)).trans (World.cell?_setCell_same' _ _ _ (by rw [k2]; rfl))
        have c6 : ((W.setCell ⟨w.heap.size + 1 + 1, 0, none⟩ (.string (sure k))).setCell ⟨w.heap.size + 1 + 1 + 1, 0, none⟩ (.int .i64 0)).cell? ⟨w.heap.size + 1 + 1 + 1, 0, none⟩ = some (.int .i64 0) :=
          World.cell?_setCell_same' _ _ _ (by rw [World.cell?_setCell_other _ _ _ _ (fun e => by simp at e), k3]; rfl)
        have d5 := cell_kept c5 (grownBy_putObj' _ D (.deferred none)) (fun r e => by cases e; exact ⟨_, hK', rfl⟩)
        have d6 := cell_kept c6 (grownBy_putObj' _ D (.deferred none)) (fun r e => by cases e; exact ⟨_, hK', rfl⟩)
        have hB2 := (hBw.setCell (p := ⟨w.heap.size + 1 + 1, 0, none⟩) (by show w.heap.size ≤ w.heap.size + 1 + 1; omega) (.string (sure k))).setCell (p := ⟨w.heap.size + 1 + 1 + 1, 0, none⟩) (by show w.heap.size ≤ w.heap.size + 1 + 1 + 1; omega) (.int .i64 0)
        refine ⟨ans (sure k) 0, ?_, ⟨_, rfl, .inr (.inr ⟨hdead, hrange.1, hrange.2, .inr ⟨?_, rfl⟩⟩)⟩, hB2.trans (belowK_b (w := w) (Nat.le_refl _) _ D _ _ (by omega) hK' rfl rfl)⟩
        · simp [results, Tryz.f111, go_sem, d5, d6]
          rfl
        · intro j hj
          have h := hp (els len sec dat (len - 1 - j)) (by
            simp only [upto, List.mem_map, List.mem_range]
            exact ⟨len - 1 - j, by omega, rfl⟩)
          have e : len - 1 - (len - 1 - j) = j := by omega
          simpa [els, e] using h
    case stop =>
      rintro D c pre W hD ⟨k, hk, rfl⟩ ⟨⟨rfl, ini, last, e1, e2, e3, e4, e5⟩, hB⟩ hK
      gi_wp2
      refine ⟨by simp, .inl ⟨_, _, rfl, run_takeDeferred hK, ?_⟩⟩
      have d5 := cell_kept e4 (grownBy_putObj' _ D (.deferred none)) (fun r e => by cases e; exact ⟨_, hK, rfl⟩)
      have d6 := cell_kept e5 (grownBy_putObj' _ D (.deferred none)) (fun r e => by cases e; exact ⟨_, hK, rfl⟩)
      obtain ⟨k', rfl⟩ : ∃ k', k = k' + 1 := by
        cases k with
        | zero => simp [upto] at e1
        | succ k' => exact ⟨k', rfl⟩
      rw [upto_succ] at e1
      obtain ⟨rfl, e6⟩ := List.append_inj' e1 rfl
      obtain rfl : els len sec dat k' = last := by simpa using e6
      refine ⟨ans (dat (len - 1 - k')) 0, ?_, ⟨_, rfl, .inr (.inr ⟨hdead, hrange.1, hrange.2, .inl ⟨len - 1 - k', by omega, e3, ?_, rfl⟩⟩)⟩, hB.trans (belowK_b (w := w) (Nat.le_refl _) W D _ _ (by omega) hK rfl rfl)⟩
      · simp [results, Tryz.f111, go_sem, d5, d6]
        rfl
      · intro j hj1 hj2
        have h := e2 (els len sec dat (len - 1 - j)) (by
          simp only [upto, List.mem_map, List.mem_range]
          exact ⟨len - 1 - j, by omega, rfl⟩)
        have e : len - 1 - (len - 1 - j) = j := by omega
        simpa [els, e] using h
end Rd
end Go.Proofs

namespace Gm
open Go Go.Proofs Go.RowKit
def holds (s0 : Str) (l : List Write) (i : Int) : Str := l.foldl (fun s w => if w.sector = i then w.data else s) s0
def readV (d : Disk) (i : Int) : Str × Int :=
  if d.dead = true then ([], 6) else if 0 ≤ i ∧ i < d.sure.length then (holds (d.sure.getD i.toNat []) d.cache i, 0) else ([], 4)
theorem holds_none {s0 : Str} {i : Int} : ∀ {l : List Write}, (∀ w ∈ l, w.sector ≠ i) → holds s0 l i = s0 := by
  intro l
  induction l generalizing s0 with
  | nil => intro _; rfl
  | cons w l ih =>
    intro h
    unfold holds at ih ⊢
    rw [List.foldl_cons, if_neg (h w (by simp))]
    exact ih (fun w' hw => h w' (by simp [hw]))
theorem holds_some {s0 : Str} {i : Int} : ∀ {l : List Write} {m : Nat} (hm : m < l.length), l[m].sector = i → (∀ j (hj : j < l.length), m < j → l[j].sector ≠ i) → holds s0 l i = l[m].data := by
  intro l
  induction l generalizing s0 with
  | nil => intro m hm; simp at hm
  | cons w l ih =>
    intro m hm h1 h2
    cases m with
    | zero =>
      have h1 : w.sector = i := h1
      have := holds_none (s0 := w.data) (i := i) (l := l) (fun w' hw => by
        obtain ⟨j, hj, e⟩ := List.mem_iff_getElem.1 hw
        rw [← e]
        exact h2 (j + 1) (by simp; omega) (by omega))
      unfold holds at this ⊢
      rw [List.foldl_cons, if_pos h1]
      exact this
    | succ m =>
      have := ih (s0 := if w.sector = i then w.data else s0) (m := m) (by simpa using hm) (by simpa using h1) (fun j hj hlt => by
        have := h2 (j + 1) (by simp; omega) (by omega)
        simpa using this)
      unfold holds at this ⊢
      rw [List.foldl_cons]
      simpa using this
def strOf : Value → ByteArray
  | .string b => b
  | _ => ByteArray.empty
theorem rv_str {S : Sit} {s : Str} {v : Value} (h : Rv S (.str s) v) : v = .string (strOf v) ∧ (strOf v).data.toList = s := by
  cases h with
  | str s b e => exact ⟨rfl, e⟩
theorem rv_int {S : Sit} {k : IntKind} {n : Int} {v : Value} (h : Rv S (.int k n) v) : v = .int k n := by cases h; rfl
theorem rv_bool {S : Sit} {b : Bool} {v : Value} (h : Rv S (.bool b) v) : v = .bool b := by cases h; rfl
theorem rv_strings {S : Sit} (hF : ∀ B o, S.F B o → B < S.w.heap.size) {xs : List Str} {v : Value} (h : Rv S (.sl .any .str xs) v) :
    ∃ a cap, v = .slice a xs.length cap ∧ ∃ sure : Nat → ByteArray, Rd.Ss S.w.heap.size S.w v xs.length sure ∧ ∀ j (hj : j < xs.length), (sure j).data.toList = xs[j] := by
  cases h with
  | slN _ _ _ => exact ⟨none, 0, rfl, fun _ => ByteArray.empty, .inl ⟨none, 0, rfl, rfl⟩, fun j hj => by simp at hj⟩
  | slE _ _ a cap _ => exact ⟨some a, cap, rfl, fun _ => ByteArray.empty, .inl ⟨some a, cap, rfl, rfl⟩, fun j hj => by simp at hj⟩
  | sl _ _ _ B off cap val h1 h2 h3 h4 h5 =>
    have key : ∀ j (hj : j < xs.length), val j = .string (strOf (val j)) ∧ (strOf (val j)).data.toList = xs[j] := by
      intro j hj
      have := h5 j xs[j] 0 (.str xs[j]) (List.getElem?_eq_getElem hj) rfl
      rw [show j * Ty.str.sz + 0 = j by show j * 1 + 0 = j; omega] at this
      exact rv_str this
    by_cases hz : xs.length = 0
    · exact ⟨_, cap, rfl, fun _ => ByteArray.empty, .inl ⟨_, cap, by rw [hz], hz⟩, fun j hj => by omega⟩
    · refine ⟨_, cap, rfl, fun j => strOf (val j), .inr ⟨B, off, cap, rfl, hF B (off + 0) (h3 0 (by show 0 < xs.length * 1; omega)), ?_⟩, fun j hj => (key j hj).2⟩
      intro j hj
      have := h4 j (by show j < xs.length * 1; omega)
      rw [(key j hj).1] at this
      exact this
theorem rv_writes {S : Sit} (hF : ∀ B o, S.F B o → B < S.w.heap.size) {xs : List Write} {v : Value} (h : Rv S (.sl .any (.st 0) xs) v) :
    ∃ a cap, v = .slice a xs.length cap ∧ ∃ (sec : Nat → Int) (dat : Nat → ByteArray), Rd.Ws S.w.heap.size S.w v xs.length sec dat ∧ ∀ j (hj : j < xs.length), sec j = (xs[j]).sector ∧ (dat j).data.toList = (xs[j]).data := by
  cases h with
  | slN _ _ _ => exact ⟨none, 0, rfl, fun _ => 0, fun _ => ByteArray.empty, .inl ⟨none, 0, rfl, rfl⟩, fun j hj => by simp at hj⟩
  | slE _ _ a cap _ => exact ⟨some a, cap, rfl, fun _ => 0, fun _ => ByteArray.empty, .inl ⟨some a, cap, rfl, rfl⟩, fun j hj => by simp at hj⟩
  | sl _ _ _ B off cap val h1 h2 h3 h4 h5 =>
    have key : ∀ j (hj : j < xs.length), val (j * 2) = .int .i64 (xs[j]).sector ∧ val (j * 2 + 1) = .string (strOf (val (j * 2 + 1))) ∧ (strOf (val (j * 2 + 1))).data.toList = (xs[j]).data := by
      intro j hj
      have a0 := h5 j xs[j] 0 (.int .i64 (xs[j]).sector) (List.getElem?_eq_getElem hj) rfl
      have a1 := h5 j xs[j] 1 (.str (xs[j]).data) (List.getElem?_eq_getElem hj) rfl
      exact ⟨rv_int a0, rv_str a1⟩
    by_cases hz : xs.length = 0
    · exact ⟨_, cap, rfl, fun _ => 0, fun _ => ByteArray.empty, .inl ⟨_, cap, by rw [hz], hz⟩, fun j hj => by omega⟩
    · refine ⟨_, cap, rfl, fun j => (xs.getD j ⟨0, []⟩).sector, fun j => strOf (val (j * 2 + 1)), .inr ⟨B, off, cap, rfl, hF B (off + 0) (h3 0 (by show 0 < xs.length * 2; omega)), ?_⟩, fun j hj => ⟨by simp [hj], (key j hj).2.2⟩⟩
      intro j hj
      obtain ⟨k1, k2, _⟩ := key j hj
      have b0 := h4 (j * 2) (by show j * 2 < xs.length * 2; omega)
      have b1 := h4 (j * 2 + 1) (by show j * 2 + 1 < xs.length * 2; omega)
      rw [k1] at b0
      rw [k2] at b1
      refine ⟨?_, b1⟩
      have e : (xs.getD j ⟨0, []⟩).sector = (xs[j]).sector := by simp [hj]
      dsimp only
      rw [e]
      exact b0
theorem post_val {S : Sit} {d : Disk} {i : Int} {sure : Nat → ByteArray} {sec : Nat → Int} {dat : Nat → ByteArray} {v : Value}
    (hs : ∀ j (hj : j < d.sure.length), (sure j).data.toList = d.sure[j]) (hc : ∀ j (hj : j < d.cache.length), sec j = (d.cache[j]).sector ∧ (dat j).data.toList = (d.cache[j]).data)
    (h : Rd.Post d.dead i d.sure.length sure d.cache.length sec dat v) : Rv S (.tup [.str (readV d i).1, .int .i64 (readV d i).2]) v := by
  have mk : ∀ (s : Str) (c : Int) (b : ByteArray), b.data.toList = s → readV d i = (s, c) → v = Rd.ans b c → Rv S (.tup [.str (readV d i).1, .int .i64 (readV d i).2]) v := by
    intro s c b h1 h2 h3
    rw [h2, h3]
    refine .tup _ _ rfl ?_
    intro k a u ha hu
    match k with
    | 0 => simp at ha hu; subst ha; subst hu; exact .str _ _ h1
    | 1 => simp at ha hu; subst ha; subst hu; exact .int _ _
    | k + 2 => simp at ha
  rcases h with ⟨hd, e⟩ | ⟨hd, hr, e⟩ | ⟨hd, h0, h1, h⟩
  · exact mk [] 6 _ rfl (by unfold readV; rw [if_pos hd]) e
  · exact mk [] 4 _ rfl (by unfold readV; rw [if_neg (by simp [hd]), if_neg hr]) e
  · have hi : i.toNat < d.sure.length := by omega
    have hv : readV d i = (holds (d.sure.getD i.toNat []) d.cache i, 0) := by unfold readV; rw [if_neg (by simp [hd]), if_pos ⟨h0, h1⟩]
    rcases h with ⟨m, hm, h2, h3, e⟩ | ⟨h2, e⟩
    · refine mk _ 0 _ (hc m hm).2 ?_ e
      rw [hv, holds_some hm ((hc m hm).1.symm.trans h2) (fun j hj hlt => by rw [← (hc j hj).1]; exact h3 j hlt hj)]
    · refine mk _ 0 _ (hs _ hi) ?_ e
      rw [hv, holds_none (fun w hw => by
        obtain ⟨j, hj, e⟩ := List.mem_iff_getElem.1 hw
        rw [← e, ← (hc j hj).1]
        exact h2 j hj)]
      simp [hi]
namespace disk_Read
def F (d : Disk) (i : Int) (K : (Str × Int) → Prop) : Prop :=
  bif Nat.ble d.sure.length 9223372036854775807 && Nat.ble (d.cache.length * 24) 140737488351232 then K (readV d i) else False
noncomputable def en : Entry := mkEntry [(.st 1), (.int .i64)] (cTwo .str (.int .i64)) fun x => F x.1 x.2.1
theorem det (d : Disk) (i : Int) : Det (F d i) := by
  unfold F
  exact det_cond _ (det_ret _) det_false
theorem edet (args : List AV) : Det (en args) := mkEntry_det (ts := [(.st 1), (.int .i64)]) (cod := cTwo .str (.int .i64)) (F := fun x => F x.1 x.2.1) (fun x => det x.1 x.2.1) args
theorem has : ((E.P.funcs[111]?).bind (·.body)).isSome = true := by kernel_rfl
theorem runs {S : Sit} (hF : ∀ B o, S.F B o → B < S.w.heap.size) {d : Disk} {i : Int} {vs : Array Value} (h2 : d.cache.length * 24 ≤ 140737488351232)
    (hc : Cs S [enc (.st 1) d, enc (.int .i64) i] vs) : Calls Tryz.prog 111 vs S.w (fun e w' => ∃ v, e = .returned v ∧ Rv S (.tup [.str (readV d i).1, .int .i64 (readV d i).2]) v ∧ Below S.w.heap.size S.w w') := by
  obtain ⟨hlen, hr⟩ := hc
  obtain ⟨v0, v1, rfl⟩ : ∃ v0 v1, vs = #[v0, v1] := by
    obtain ⟨l⟩ := vs
    match l, hlen with
    | [a, b], _ => exact ⟨a, b, rfl⟩
  have r0 := hr 0 _ v0 rfl rfl
  have r1 := hr 1 _ v1 rfl rfl
  cases rv_int r1
  have r0 : Rv S (.agg [.sl .any .str d.sure, .sl .any (.st 0) d.cache, .int .i64 d.fuse, .bool d.dead]) v0 := r0
  cases r0 with
  | agg _ cs hl hcs =>
    obtain ⟨c0, c1, c2, c3, rfl⟩ : ∃ c0 c1 c2 c3, cs = #[c0, c1, c2, c3] := by
      obtain ⟨l⟩ := cs
      match l, hl with
      | [a, b, c, d], _ => exact ⟨a, b, c, d, rfl⟩
    obtain ⟨sa, scap, rfl, sure, hS, hs⟩ := rv_strings hF (hcs 0 _ c0 rfl rfl)
    obtain ⟨ca, ccap, rfl, sec, dat, hC, hcc⟩ := rv_writes hF (hcs 1 _ c1 rfl rfl)
    cases rv_int (hcs 2 _ c2 rfl rfl)
    cases rv_bool (hcs 3 _ c3 rfl rfl)
    have := callsIn_wide.1 (Rd.read_in Fence.wide 3 trivial trivial trivial trivial rfl (by decide) sa d.sure.length scap ca d.cache.length ccap d.fuse d.dead i sure sec dat h2 S.w hS hC)
    refine this.mono ?_
    rintro e w' ⟨⟨v, rfl, hp⟩, hB⟩
    exact ⟨v, rfl, post_val hs hcc hp, hB⟩
theorem sound : EntrySound E 111 en := by
  refine ⟨callable_of num has, ?_⟩
  intro args K hK S vs hF _ hc
  unfold en mkEntry at hK
  split at hK
  · rename_i x hx
    obtain ⟨e1, e2⟩ := decA_ok hx
    unfold F at hK
    obtain ⟨g, hk⟩ : (Nat.ble x.1.sure.length 9223372036854775807 && Nat.ble (x.1.cache.length * 24) 140737488351232) = true ∧ (cTwo .str (.int .i64)).enc (readV x.1 x.2.1) K := by
      cases hb : (Nat.ble x.1.sure.length 9223372036854775807 && Nat.ble (x.1.cache.length * 24) 140737488351232) with
      | false => rw [hb] at hK; exact hK.elim
      | true => rw [hb] at hK; exact ⟨rfl, hK⟩
    simp only [Bool.and_eq_true] at g
    have hc' : Cs S [enc (.st 1) x.1, enc (.int .i64) x.2.1] vs := by
      refine ⟨e1.trans hc.1, ?_⟩
      intro k b v hb hv
      have hk : k < vs.size := (Array.getElem?_eq_some_iff.1 hv).1
      have ha : args[k]? = some (args[k]'(by have := hc.1; omega)) := List.getElem?_eq_getElem _
      obtain ⟨b', hb', _, hw⟩ := e2 k _ ha
      have : some b = some b' := hb.symm.trans hb'
      cases this
      exact hw S v (hc.2 k _ v ha hv)
    refine (runs hF (Nat.le_of_ble_eq_true g.2) hc').mono ?_
    rintro e w' ⟨v, rfl, hr, hB⟩
    have hX : Ext S { S with w := w' } := {
      le := ⟨fun B o h => h, fun B o u h hcell => by
        rw [cell_at] at hcell ⊢
        have := hB.block B (hF B o h)
        show (match w'.heap[B]? with | some (.cells c _ _) => c[o]? | _ => none) = some u
        rw [this]; exact hcell, fun _ _ => rfl, Nat.le_refl _⟩
      G := rfl
      N := rfl
      os := hB.os
      tape := hB.tape
      output := hB.output
      size := hB.size
      old := fun B h => hB.block B h
      F := fun B o h => .inl h }
    exact ⟨v, _, { S with w := w' }, rfl, rfl, hX, hr.mono hX.le, hk⟩
  · exact hK.elim
end disk_Read
end Gm
