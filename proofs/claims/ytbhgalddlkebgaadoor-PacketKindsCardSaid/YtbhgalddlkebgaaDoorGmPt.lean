/- Plain laws: packets. -/
import Derived.Test.YtbhgalddlkebgaaDoorGmPe
import Derived.Test.YtbhgalddlkebgaaDoorGmT9
set_option maxRecDepth 100000
namespace Gm
open Go

def blk (k : Int) : Bool := decide (2 ≤ k ∧ k ≤ 7)
def dat (k : Int) : Bool := decide (k = 2 ∨ k = 6)
def ofV (k : Int) : Shape × Bool := (⟨decide (k = 1), blk k, dat k⟩, decide (1 ≤ k ∧ k ≤ 13))

theorem not_t {b : Bool} (h : (!b) = true) : b = false := by cases b with | false => rfl | true => cases h
theorem not_f {b : Bool} (h : (!b) = false) : b = true := by cases b with | true => rfl | false => cases h

theorem packet_of_ok {k : Int} {K : Shape × Bool → Prop} (h : K (ofV k)) : packet_of.F k K := by
  unfold packet_of.F
  have t : ∀ {n : Int}, (k == n) = true → k = n := fun e => by simpa using e
  have f : ∀ {n : Int}, (k == n) = false → k ≠ n := fun e => by simpa using e
  refine cond_ok (fun e => ?_) (fun e1 => ?_)
  · cases t e; exact h
  refine cond_ok (fun e => ?_) (fun e2 => ?_)
  · cases t e; exact h
  refine cond_ok (fun e => ?_) (fun e3 => ?_)
  · cases t e; exact h
  refine cond_ok (fun e => ?_) (fun e4 => ?_)
  · cases t e; exact h
  refine cond_ok (fun e => ?_) (fun e5 => ?_)
  · cases t e; exact h
  refine cond_ok (fun e => ?_) (fun e6 => ?_)
  · cases t e; exact h
  refine cond_ok (fun e => ?_) (fun e7 => ?_)
  · cases t e; exact h
  refine cond_ok (fun e => ?_) (fun e8 => ?_)
  · cases t e; exact h
  refine cond_ok (fun e => ?_) (fun e9 => ?_)
  · cases t e; exact h
  refine cond_ok (fun e => ?_) (fun e10 => ?_)
  · cases t e; exact h
  refine cond_ok (fun e => ?_) (fun e11 => ?_)
  · cases t e; exact h
  refine cond_ok (fun e => ?_) (fun e12 => ?_)
  · cases t e; exact h
  refine cond_ok (fun e => ?_) (fun e13 => ?_)
  · cases t e; exact h
  have e1 := f e1
  have e2 := f e2
  have e3 := f e3
  have e4 := f e4
  have e5 := f e5
  have e6 := f e6
  have e7 := f e7
  have e8 := f e8
  have e9 := f e9
  have e10 := f e10
  have e11 := f e11
  have e12 := f e12
  have e13 := f e13
  have e : ofV k = (⟨false, false, false⟩, false) := by
    unfold ofV blk dat
    rw [decide_eq_false (by omega : ¬ k = 1), decide_eq_false (by omega : ¬ (2 ≤ k ∧ k ≤ 7)), decide_eq_false (by omega : ¬ (k = 2 ∨ k = 6)), decide_eq_false (by omega : ¬ (1 ≤ k ∧ k ≤ 13))]
  rw [e] at h
  exact h

theorem loop_round2 {α β : Type} {B : (α → Prop) → (α → Prop) → (β → Prop) → α → Prop} {n : Nat} {kx : α → Prop} {kr : β → Prop} {x : α}
    (h : ∀ rec : α → Prop, rec = loopB B n kx kr → B rec kx kr x) : loopB B (n + 1) kx kr x := h _ rfl

theorem mask_Set_ok {i : Int} {K : Int → Prop} (h1 : 0 ≤ i ∧ i < 32 → ∀ n : Nat, 0 < n → K n) (h2 : ¬ (0 ≤ i ∧ i < 32) → K 0) : mask_Set.F 0 [i] K := by
  unfold mask_Set.F mask_of.F
  refine ⟨2, ?_⟩
  refine loop_round2 fun rec hrec => ?_
  unfold mask_of.b0
  dsimp only
  refine cond_t (decide_eq_true (by simp)) (oget_ok rfl (mask_there_ok (cond_ok (fun h => ?_) (fun h => ?_))))
  · have h := of_decide_eq_true h
    refine gd_ok (decide_eq_true h.1) ?_
    rw [hrec]
    refine loop_round2 fun rec hrec => ?_
    unfold mask_of.b0
    dsimp only
    refine cond_f (decide_eq_false (by simp; decide)) ?_
    obtain ⟨i, rfl⟩ : ∃ n : Nat, i = n := ⟨i.toNat, by omega⟩
    have hi : i < 32 := by omega
    have e := ishl_nat (k := .u32) rfl 1 (y := i) (by show i ≤ 32; omega)
    have hp : 2 ^ i < 2 ^ 32 := Nat.pow_lt_pow_right (by decide) hi
    have e' : ishl .u32 1 (i : Int) = ((2 ^ i : Nat) : Int) := by
      rw [show (1 : Int) = ((1 : Nat) : Int) from rfl, e, Nat.one_mul]
      congr 1
      exact Nat.mod_eq_of_lt hp
    have z : ∀ n : Nat, n < 2 ^ 32 → ior .u32 0 (n : Int) = (n : Int) := by
      intro n hn
      have := ior_nat (k := .u32) rfl (x := 0) (y := n) (by decide) hn
      simpa using this
    rw [e', z _ hp, z _ hp]
    exact h1 h _ (Nat.two_pow_pos i)
  · have h := of_decide_eq_false h
    rw [hrec]
    refine loop_round2 fun rec hrec => ?_
    unfold mask_of.b0
    dsimp only
    refine cond_f (decide_eq_false (by simp; decide)) ?_
    exact h2 h

def pTail (p : Packet) : Bool := bif dat p.kind then ((p.data.length : Int) == 8) else (p.data == ([] : Str))
def pBlk (p : Packet) : Bool := bif blk p.kind then decide (0 ≤ p.block ∧ p.block < 32) else (p.block == 0)
def pHel (p : Packet) : Bool := bif decide (p.kind = 1) then hRight p.hello else hEq p.hello zeroH
def pRight (p : Packet) : Bool := decide (1 ≤ p.kind ∧ p.kind ≤ 13) && (pHel p && (pBlk p && pTail p))

theorem tail_ok {p : Packet} {b : Bool} {K : Bool → Prop} (hb : b = dat p.kind) (h : K (pTail p)) : bif b then (K ((p.data.length : Int) == 8)) else (K (p.data == ([] : Str))) := by
  subst hb
  unfold pTail at h
  refine cond_ok (fun e => ?_) (fun e => ?_) <;> rw [e] at h <;> exact h

theorem hEq_of {a b : Hello} (h : hEq a b = true) : a = b := by
  obtain ⟨a1, ⟨a2, a3, a4, a5⟩, a6, a7, a8, a9, a10⟩ := a
  obtain ⟨b1, ⟨b2, b3, b4, b5⟩, b6, b7, b8, b9, b10⟩ := b
  simp only [hEq, Bool.and_eq_true, beq_iff_eq] at h
  obtain ⟨rfl, ⟨rfl, rfl, ⟨rfl, rfl, _⟩, _⟩, rfl, rfl, rfl, rfl, rfl, _⟩ := h
  rfl

theorem packet_Right_ok {p : Packet} (hw : wHello p.hello) {K : Bool → Prop} (h : K (pRight p)) : packet_Right.F p K := by
  unfold packet_Right.F
  refine packet_of_ok (cond_ok (fun e => ?_) (fun e => ?_))
  · have e : decide (1 ≤ p.kind ∧ p.kind ≤ 13) = false := not_t e
    unfold pRight at h
    rw [e, Bool.false_and] at h
    exact h
  have e : decide (1 ≤ p.kind ∧ p.kind ≤ 13) = true := not_f e
  have step : ∀ {b : Bool}, (∀ {K : Bool → Prop}, K (pBlk p && pTail p) → (bif blk p.kind then (mask_Set.F 0 ([p.block] : List Int) fun r3 => (bif (r3 == 0) then (K false) else (bif (!blk p.kind) then (bif (p.block != 0) then (K false) else (bif dat p.kind then (K ((p.data.length : Int) == 8)) else (K (p.data == ([] : Str))))) else (bif dat p.kind then (K ((p.data.length : Int) == 8)) else (K (p.data == ([] : Str))))))) else (bif (!blk p.kind) then (bif (p.block != 0) then (K false) else (bif dat p.kind then (K ((p.data.length : Int) == 8)) else (K (p.data == ([] : Str))))) else (bif dat p.kind then (K ((p.data.length : Int) == 8)) else (K (p.data == ([] : Str))))))) := by
    intro _ K k
    unfold pBlk at k
    refine cond_ok (fun e => ?_) (fun e => ?_)
    · rw [e] at k ⊢
      refine mask_Set_ok (fun hi n hn => ?_) (fun hi => ?_)
      · rw [cond_true, decide_eq_true hi, Bool.true_and] at k
        exact cond_f (by simp; omega) (cond_f rfl (tail_ok rfl k))
      · rw [cond_true, decide_eq_false hi, Bool.false_and] at k
        exact cond_t rfl k
    · rw [e] at k ⊢
      rw [cond_false] at k
      refine cond_t rfl (cond_ok (fun e2 => ?_) (fun e2 => ?_))
      · have : (p.block == 0) = false := by simpa using e2
        rw [this, Bool.false_and] at k
        exact k
      · have : (p.block == 0) = true := by simpa using e2
        rw [this, Bool.true_and] at k
        exact tail_ok rfl k
  unfold pRight at h
  rw [e, Bool.true_and] at h
  unfold pHel at h
  refine hello_Right_ok hw (cond_ok (fun e1 => ?_) (fun e1 => ?_))
  · have e1 : decide (p.kind = 1) ≠ hRight p.hello := fun hh => by
      have e1 : (decide (p.kind = 1) == hRight p.hello) = false := not_t e1
      rw [hh] at e1
      simp at e1
    cases hk : decide (p.kind = 1) with
    | true =>
      rw [hk] at h e1
      have : hRight p.hello = false := by cases hh : hRight p.hello with | false => rfl | true => exact absurd hh.symm e1
      rw [cond_true, this, Bool.false_and] at h
      exact h
    | false =>
      rw [hk] at h e1
      have : hEq p.hello zeroH = false := by
        cases hh : hEq p.hello zeroH with
        | false => rfl
        | true => rw [hEq_of hh, rZ] at e1; exact absurd rfl e1
      rw [cond_false, this, Bool.false_and] at h
      exact h
  have e1 : decide (p.kind = 1) = hRight p.hello := eq_of_beq (not_f e1)
  refine cond_ok (fun e2 => ?_) (fun e2 => ?_)
  · have e2 : decide (p.kind = 1) = false := not_t e2
    rw [e2, cond_false] at h
    refine cond_ok (fun e3 => ?_) (fun e3 => ?_)
    · have e3 : hEq p.hello zeroH = false := by
        have e3 : (!hEq p.hello zeroH) = true := e3
        simpa using e3
      rw [e3, Bool.false_and] at h
      exact h
    · have e3 : hEq p.hello zeroH = true := by
        have e3 : (!hEq p.hello zeroH) = false := e3
        simpa using e3
      rw [e3, Bool.true_and] at h
      exact step (b := true) h
  · have e2 : decide (p.kind = 1) = true := not_f e2
    rw [e2, cond_true, ← e1, e2, Bool.true_and] at h
    exact step (b := true) h

theorem ref13_block_ok {k : Int} {K : Bool → Prop} (h : K (blk k)) : ref13_block.F k K := by
  unfold ref13_block.F
  unfold blk at h
  refine cond_ok (fun e => ?_) (fun e => ?_)
  · have e : k ≥ 2 := of_decide_eq_true e
    rw [show decide (2 ≤ k ∧ k ≤ 7) = decide (k ≤ 7) by rw [Bool.eq_iff_iff, decide_eq_true_eq, decide_eq_true_eq]; omega] at h
    exact h
  · have e : ¬ k ≥ 2 := of_decide_eq_false e
    rw [decide_eq_false (by omega)] at h
    exact h
theorem ref13_data_ok {k : Int} {K : Bool → Prop} (h : K (dat k)) : ref13_data.F k K := by
  unfold ref13_data.F
  unfold dat at h
  refine cond_ok (fun e => ?_) (fun e => ?_)
  · have e : k = 2 := by simpa using e
    rw [decide_eq_true (.inl e)] at h
    exact h
  · have e : k ≠ 2 := by simpa using e
    rw [show decide (k = 2 ∨ k = 6) = (k == 6) by rw [Bool.eq_iff_iff, decide_eq_true_eq, beq_iff_eq]; omega] at h
    exact h

theorem ref13_Right_ok {p : Packet} (hw : wHello p.hello) {K : Bool → Prop} (h : K (pRight p)) : ref13_Right.F p K := by
  unfold ref13_Right.F
  unfold pRight at h
  refine cond_ok (fun e => ?_) (fun e => ?_)
  · have e : p.kind < 1 := of_decide_eq_true e
    rw [decide_eq_false (by omega), Bool.false_and] at h; exact h
  have e : ¬ p.kind < 1 := of_decide_eq_false e
  refine cond_ok (fun e2 => ?_) (fun e2 => ?_)
  · have e2 : p.kind > 13 := of_decide_eq_true e2
    rw [decide_eq_false (by omega), Bool.false_and] at h; exact h
  have e2 : ¬ p.kind > 13 := of_decide_eq_false e2
  rw [decide_eq_true (by omega), Bool.true_and] at h
  have step : ∀ {K : Bool → Prop}, K (pBlk p && pTail p) → (bif (decide (p.block < 0)) then (K false) else (bif (decide (p.block > 31)) then (K false) else (ref13_block.F p.kind fun r2 => (bif (!r2) then (bif (p.block != 0) then (K false) else (ref13_data.F p.kind fun r3 => (bif r3 then (K ((p.data.length : Int) == 8)) else (K (p.data == ([] : Str)))))) else (ref13_data.F p.kind fun r4 => (bif r4 then (K ((p.data.length : Int) == 8)) else (K (p.data == ([] : Str))))))))) := by
    intro K k
    unfold pBlk at k
    have out : ¬ (0 ≤ p.block ∧ p.block < 32) → K false := by
      intro ho
      rw [decide_eq_false ho, show (p.block == 0) = false by simp; omega] at k
      cases hb : blk p.kind <;> rw [hb] at k <;> exact k
    refine cond_ok (fun e => ?_) (fun e => ?_)
    · have e : p.block < 0 := of_decide_eq_true e
      exact out (by omega)
    have e : ¬ p.block < 0 := of_decide_eq_false e
    refine cond_ok (fun e2 => ?_) (fun e2 => ?_)
    · have e2 : p.block > 31 := of_decide_eq_true e2
      exact out (by omega)
    have e2 : ¬ p.block > 31 := of_decide_eq_false e2
    refine ref13_block_ok ?_
    rw [decide_eq_true (by omega : 0 ≤ p.block ∧ p.block < 32)] at k
    refine cond_ok (fun e3 => ?_) (fun e3 => ?_)
    · have e3 : blk p.kind = false := by simpa using e3
      rw [e3, cond_false] at k
      refine cond_ok (fun e4 => ?_) (fun e4 => ?_)
      · have : (p.block == 0) = false := by simpa using e4
        rw [this, Bool.false_and] at k
        exact k
      · have : (p.block == 0) = true := by simpa using e4
        rw [this, Bool.true_and] at k
        exact ref13_data_ok (tail_ok rfl k)
    · have e3 : blk p.kind = true := by simpa using e3
      rw [e3, cond_true, Bool.true_and] at k
      exact ref13_data_ok (tail_ok rfl k)
  unfold pHel at h
  refine cond_ok (fun e3 => ?_) (fun e3 => ?_)
  · have e3 : p.kind = 1 := by simpa using e3
    rw [decide_eq_true e3, cond_true] at h
    refine ref10_Right_ok hw (cond_ok (fun e4 => ?_) (fun e4 => ?_))
    · have e4 : hRight p.hello = false := by simpa using e4
      rw [e4, Bool.false_and] at h
      exact h
    · have e4 : hRight p.hello = true := by simpa using e4
      rw [e4, Bool.true_and] at h
      exact cond_f (by simp [e3]) (step h)
  · have e3 : p.kind ≠ 1 := by simpa using e3
    rw [decide_eq_false e3, cond_false] at h
    refine cond_t (by simpa using e3) (cond_ok (fun e4 => ?_) (fun e4 => ?_))
    · have e4 : hEq p.hello zeroH = false := by
        have e4 : (!hEq p.hello zeroH) = true := e4
        simpa using e4
      rw [e4, Bool.false_and] at h
      exact h
    · have e4 : hEq p.hello zeroH = true := by
        have e4 : (!hEq p.hello zeroH) = false := e4
        simpa using e4
      rw [e4, Bool.true_and] at h
      exact step h
end Gm

/- Plain laws: packets' bytes. -/
set_option maxRecDepth 100000
namespace Gm
open Go

def pBytes (p : Packet) : Str :=
  bytesOfInts [IntKind.u8.wrap p.kind] ++ be p.session.toNat 8 ++ ((bif decide (p.kind = 1) then hBytes p.hello else []) ++ ((bif blk p.kind then bytesOfInts [IntKind.u8.wrap p.block] else []) ++ p.data))
def encP (p : Packet) : Str × Int := if pRight p = true then (sealV (pBytes p), 0) else ([], 1)

theorem one_len (x : Int) : (bytesOfInts [x]).length = 1 := rfl

theorem right_parts {p : Packet} (h : pRight p = true) : (1 ≤ p.kind ∧ p.kind ≤ 13) ∧ pHel p = true ∧ pBlk p = true ∧ pTail p = true := by
  unfold pRight at h
  simp only [Bool.and_eq_true, decide_eq_true_eq] at h
  exact ⟨h.1, h.2.1, h.2.2.1, h.2.2.2⟩
theorem tail_len {p : Packet} (h : pTail p = true) : p.data.length ≤ 8 := by
  unfold pTail at h
  cases e : dat p.kind with
  | true =>
    rw [e, cond_true] at h
    have : (p.data.length : Int) = 8 := by simpa using h
    omega
  | false =>
    rw [e, cond_false] at h
    have : p.data = [] := by simpa using h
    rw [this]; simp

theorem blk_one : blk 1 = false := rfl

theorem packet_Encode_ok {p : Packet} (hw : wHello p.hello) (hs : inK .u64 p.session) {K : (Str × Int) → Prop} (h : K (encP p)) : packet_Encode.F p K := by
  unfold packet_Encode.F
  unfold encP at h
  refine packet_Right_ok hw (cond_ok (fun e => ?_) (fun e => ?_))
  · rw [if_neg (by intro hh; rw [hh] at e; cases e)] at h; exact h
  have e : pRight p = true := by simpa using e
  rw [if_pos e] at h
  obtain ⟨hk, hH, hB, hT⟩ := right_parts e
  have hl := tail_len hT
  refine packet_of_ok ?_
  obtain ⟨kind, session, hello, block, data⟩ := p
  have hs : 0 ≤ session ∧ session ≤ 18446744073709551615 := hs
  obtain ⟨s, rfl⟩ : ∃ n : Nat, session = n := ⟨session.toNat, by omega⟩
  dsimp only at *
  refine num_Put64_ok (gd_ok (fits_small (by rw [one_len, be_length]; decide)) (cond_ok (fun e1 => ?_) (fun e1 => ?_)))
  · have e1 : decide (kind = 1) = true := e1
    have e1' : kind = 1 := of_decide_eq_true e1
    subst e1'
    have hR : hRight hello = true := hH
    refine hello_Encode_ok hw ?_
    have eV : encV hello = (hBytes hello, 0) := by unfold encV; rw [if_pos hR]
    rw [eV]
    refine gd_ok (fits_small (by simp only [List.length_append, one_len, be_length, hBytes_length]; decide)) (cond_f rfl (gd_ok (fits_small (by simp only [List.length_append, one_len, be_length, hBytes_length]; omega)) (check_Seal_ok (wStr_of (by simp only [List.length_append, one_len, be_length, hBytes_length]; omega)) ?_)))
    have eB : pBytes ⟨1, (s : Int), hello, block, data⟩ = bytesOfInts [IntKind.u8.wrap 1] ++ be s 8 ++ hBytes hello ++ data := by
      show bytesOfInts [IntKind.u8.wrap 1] ++ be s 8 ++ (hBytes hello ++ ([] ++ data)) = _
      simp only [List.nil_append, List.append_assoc]
    rw [eB] at h
    exact h
  · have e1 : decide (kind = 1) = false := e1
    refine cond_ok (fun e2 => ?_) (fun e2 => ?_)
    · have e2 : blk kind = true := e2
      refine gd_ok (fits_small (by simp only [List.length_append, one_len, be_length]; decide)) (gd_ok (fits_small (by simp only [List.length_append, one_len, be_length]; omega)) (check_Seal_ok (wStr_of (by simp only [List.length_append, one_len, be_length]; omega)) ?_))
      have eB : pBytes ⟨kind, (s : Int), hello, block, data⟩ = bytesOfInts [IntKind.u8.wrap kind] ++ be s 8 ++ bytesOfInts [IntKind.u8.wrap block] ++ data := by
        unfold pBytes
        dsimp only
        rw [e1, e2]
        simp only [cond_false, cond_true, List.nil_append, List.append_assoc, Int.toNat_natCast]
      rw [eB] at h
      exact h
    · have e2 : blk kind = false := e2
      refine gd_ok (fits_small (by simp only [List.length_append, one_len, be_length]; omega)) (check_Seal_ok (wStr_of (by simp only [List.length_append, one_len, be_length]; omega)) ?_)
      have eB : pBytes ⟨kind, (s : Int), hello, block, data⟩ = bytesOfInts [IntKind.u8.wrap kind] ++ be s 8 ++ data := by
        unfold pBytes
        dsimp only
        rw [e1, e2]
        simp only [cond_false, List.nil_append, Int.toNat_natCast]
      rw [eB] at h
      exact h

theorem ref13_bytes_ok {p : Packet} (hw : wHello p.hello) (hs : inK .u64 p.session) (hr : pRight p = true) {K : Str → Prop} (h : K (pBytes p)) : ref13_bytes.F p K := by
  unfold ref13_bytes.F
  obtain ⟨hk, hH, hB, hT⟩ := right_parts hr
  have hl := tail_len hT
  obtain ⟨kind, session, hello, block, data⟩ := p
  have hs : 0 ≤ session ∧ session ≤ 18446744073709551615 := hs
  obtain ⟨s, rfl⟩ : ∃ n : Nat, session = n := ⟨session.toNat, by omega⟩
  dsimp only at *
  refine ref01_Put64_ok (by omega) (gd_ok (fits_small (by rw [one_len, be_length]; decide)) (cond_ok (fun e1 => ?_) (fun e1 => ?_)))
  · have e1' : kind = 1 := by simpa using e1
    subst e1'
    have hR : hRight hello = true := hH
    refine ref10_Encode_ok hw ?_
    have eV : encV hello = (hBytes hello, 0) := by unfold encV; rw [if_pos hR]
    rw [eV]
    refine gd_ok (fits_small (by simp only [List.length_append, one_len, be_length, hBytes_length]; decide)) (ref13_block_ok (cond_f rfl (gd_ok (fits_small (by simp only [List.length_append, one_len, be_length, hBytes_length]; omega)) ?_)))
    have eB : pBytes ⟨1, (s : Int), hello, block, data⟩ = bytesOfInts [IntKind.u8.wrap 1] ++ be s 8 ++ hBytes hello ++ data := by
      show bytesOfInts [IntKind.u8.wrap 1] ++ be s 8 ++ (hBytes hello ++ ([] ++ data)) = _
      simp only [List.nil_append, List.append_assoc]
    rw [eB] at h
    exact h
  · have e1 : decide (kind = 1) = false := decide_eq_false (by simpa using e1)
    refine ref13_block_ok (cond_ok (fun e2 => ?_) (fun e2 => ?_))
    · refine gd_ok (fits_small (by simp only [List.length_append, one_len, be_length]; decide)) (gd_ok (fits_small (by simp only [List.length_append, one_len, be_length]; omega)) ?_)
      have eB : pBytes ⟨kind, (s : Int), hello, block, data⟩ = bytesOfInts [IntKind.u8.wrap kind] ++ be s 8 ++ bytesOfInts [IntKind.u8.wrap block] ++ data := by
        unfold pBytes
        dsimp only
        rw [e1, e2]
        simp only [cond_false, cond_true, List.nil_append, List.append_assoc, Int.toNat_natCast]
      rw [eB] at h
      exact h
    · refine gd_ok (fits_small (by simp only [List.length_append, one_len, be_length]; omega)) ?_
      have eB : pBytes ⟨kind, (s : Int), hello, block, data⟩ = bytesOfInts [IntKind.u8.wrap kind] ++ be s 8 ++ data := by
        unfold pBytes
        dsimp only
        rw [e1, e2]
        simp only [cond_false, List.nil_append, Int.toNat_natCast]
      rw [eB] at h
      exact h

theorem pBytes_len {p : Packet} (h : pRight p = true) : (pBytes p).length ≤ 100 := by
  obtain ⟨hk, hH, hB, hT⟩ := right_parts h
  have hl := tail_len hT
  unfold pBytes
  cases decide (p.kind = 1) <;> cases blk p.kind <;> simp only [cond_true, cond_false, List.length_append, one_len, be_length, hBytes_length, List.length_nil] <;> omega

theorem ref13_Encode_ok {p : Packet} (hw : wHello p.hello) (hs : inK .u64 p.session) {K : (Str × Int) → Prop} (h : K (encP p)) : ref13_Encode.F p K := by
  unfold ref13_Encode.F
  unfold encP at h
  refine ref13_Right_ok hw (cond_ok (fun e => ?_) (fun e => ?_))
  · rw [if_neg (by intro hh; rw [hh] at e; cases e)] at h; exact h
  have e : pRight p = true := by simpa using e
  rw [if_pos e] at h
  exact ref13_bytes_ok hw hs e (ref02_Seal_ok (wStr_of (by have := pBytes_len e; omega)) h)

/-! ### Bytes' packets -/
def zeroP : Packet := ⟨0, 0, zeroH, 0, []⟩
def kOf (t : Str) : Int := ((t.getD 0 0).toNat : Int)
def sOf (t : Str) : Int := (unbe (sub t 1 9) : Int)
/-- What packet the bytes would be. -/
def pOf (t : Str) : Option Packet :=
  if kOf t = 1 then (if (decV (t.drop 9)).2 = 0 then some ⟨kOf t, sOf t, (decV (t.drop 9)).1, 0, []⟩ else none)
  else if blk (kOf t) = true then (if t.drop 9 = [] then none else some ⟨kOf t, sOf t, zeroH, (((t.drop 9).getD 0 0).toNat : Int), (t.drop 9).drop 1⟩)
  else some ⟨kOf t, sOf t, zeroH, 0, t.drop 9⟩
def okP (p : Packet) : Packet × Int := if pRight p = true then (p, 0) else (zeroP, 2)
def decT (t : Str) : Packet × Int := match pOf t with
  | some p => okP p
  | none => (zeroP, 2)
def decP (b : Str) : Packet × Int := if (openV b).2 ≠ 0 then (zeroP, (openV b).2) else if (openV b).1.length < 9 then (zeroP, 2) else decT (openV b).1

theorem decV_cases (b : Str) : (decV b = (hOfBytes b, 0) ∧ b.length = 38 ∧ (b.getD 1 0).toNat < 16 ∧ hRight (hOfBytes b) = true) ∨ decV b = (zeroH, 2) := by
  unfold decV
  by_cases h : b.length = 38 ∧ (b.getD 1 0).toNat < 16 ∧ hRight (hOfBytes b) = true
  · rw [if_pos h]; exact .inl ⟨rfl, h⟩
  · rw [if_neg h]; exact .inr rfl
theorem wDec (b : Str) : wHello (decV b).1 := by
  rcases decV_cases b with ⟨e, hl, _⟩ | e
  · rw [e]; exact wH_of hl
  · rw [e]; exact wZ

theorem openV_len (s : Str) : (openV s).1.length ≤ s.length := by
  unfold openV
  split
  · simp
  split
  · simp
  · simp

theorem okP_t {p : Packet} (h : pRight p = true) : okP p = (p, 0) := by unfold okP; rw [if_pos h]
theorem okP_f {p : Packet} (h : pRight p = false) : okP p = (zeroP, 2) := by unfold okP; rw [if_neg (by rw [h]; simp)]
theorem fin_ok {p : Packet} (hw : wHello p.hello) {K : (Packet × Int) → Prop} (h : K (okP p)) : packet_Right.F p fun r => bif !r then K (zeroP, 2) else K (p, 0) := by
  refine packet_Right_ok hw (cond_ok (fun e => ?_) (fun e => ?_))
  · rw [okP_f (not_t e)] at h; exact h
  · rw [okP_t (not_f e)] at h; exact h

theorem packet_Decode_ok {b : Str} (hs : b.length ≤ 10000) {K : (Packet × Int) → Prop} (h : K (decP b)) : packet_Decode.F b K := by
  unfold packet_Decode.F
  unfold decP at h
  have hol := openV_len b
  refine check_Open_ok (wStr_of (by omega)) (cond_ok (fun e1 => ?_) (fun e1 => ?_))
  · rw [if_pos (by simpa using e1)] at h
    exact cond_t e1 h
  rw [if_neg (by simpa using e1)] at h
  generalize (openV b).1 = t at h hol ⊢
  refine cond_ok (fun e2 => ?_) (fun e2 => ?_)
  · have e2 : (t.length : Int) < 9 := of_decide_eq_true e2
    rw [if_pos (by omega)] at h; exact h
  have e2 : ¬ (t.length : Int) < 9 := of_decide_eq_false e2
  have hl : 9 ≤ t.length := by omega
  rw [if_neg (by omega)] at h
  unfold decT at h
  refine oget_ok (getI_lit 0 (i := 0) (by omega)) (gd_ok (by simp; omega) ?_)
  show num_Get64.F (sub t 1 9) _
  refine num_Get64_ok ?_
  rw [getN_of (sub_len (by omega))]
  have e0 : IntKind.i64.wrap ((t.getD 0 0).toNat : Int) = kOf t := by
    have := u8_lt (t.getD 0 0)
    rw [wrap_i64 (by omega)]
    rfl
  rw [e0]
  refine packet_of_ok (cond_ok (fun e3 => ?_) (fun e3 => ?_))
  · have e3 : decide (1 ≤ kOf t ∧ kOf t ≤ 13) = false := not_t e3
    have e3' := of_decide_eq_false e3
    unfold pOf at h
    rw [if_neg (by omega), if_neg (by unfold blk; simp; omega)] at h
    replace h : K (okP ⟨kOf t, sOf t, zeroH, 0, t.drop 9⟩) := h
    rw [okP_f (by unfold pRight; dsimp only; rw [e3, Bool.false_and])] at h
    exact h
  refine gd_ok (by simp; omega) ?_
  have es : sub t (Int.toNat 9) t.length = t.drop 9 := sub_drop
  rw [es]
  refine cond_ok (fun e4 => ?_) (fun e4 => ?_)
  · have e4 : kOf t = 1 := of_decide_eq_true (show decide (kOf t = 1) = true from e4)
    unfold pOf at h
    rw [if_pos e4] at h
    refine hello_Decode_ok (cond_ok (fun e5 => ?_) (fun e5 => ?_))
    · rcases decV_cases (t.drop 9) with ⟨e, _⟩ | e
      · rw [e] at e5; cases e5
      · rw [e] at h ⊢
        exact cond_t rfl h
    · have e5' : (decV (t.drop 9)).2 = 0 := by simpa using e5
      rw [if_pos e5'] at h
      exact fin_ok (p := ⟨kOf t, sOf t, (decV (t.drop 9)).1, 0, []⟩) (wDec _) h
  · have e4 : kOf t ≠ 1 := of_decide_eq_false (show decide (kOf t = 1) = false from e4)
    unfold pOf at h
    rw [if_neg e4] at h
    refine cond_ok (fun e5 => ?_) (fun e5 => ?_)
    · rw [if_pos (show blk (kOf t) = true from e5)] at h
      refine cond_ok (fun e6 => ?_) (fun e6 => ?_)
      · rw [if_pos (by simpa using e6)] at h; exact h
      · have e6 : t.drop 9 ≠ [] := by simpa using e6
        rw [if_neg e6] at h
        have hpos : 0 < (t.drop 9).length := List.length_pos_iff.2 e6
        refine oget_ok (getI_lit 0 (i := 0) hpos) (gd_ok (by simp; simp at hpos; omega) ?_)
        have es2 : sub (t.drop 9) (Int.toNat 1) (t.drop 9).length = (t.drop 9).drop 1 := sub_drop
        have e7 : IntKind.i64.wrap (((t.drop 9).getD 0 0).toNat : Int) = (((t.drop 9).getD 0 0).toNat : Int) := by
          have := u8_lt ((t.drop 9).getD 0 0)
          exact wrap_i64 (by omega)
        rw [es2, e7]
        exact fin_ok (p := ⟨kOf t, sOf t, zeroH, (((t.drop 9).getD 0 0).toNat : Int), (t.drop 9).drop 1⟩) wZ h
    · rw [if_neg (by rw [show blk (kOf t) = false from e5]; simp)] at h
      exact fin_ok (p := ⟨kOf t, sOf t, zeroH, 0, t.drop 9⟩) wZ h
end Gm

/- The laws of layer 13 are true. -/
set_option maxRecDepth 100000
namespace Gm
open Go

theorem u8_back (c : UInt8) : bytesOfInts [IntKind.u8.wrap (c.toNat : Int)] = [c] := by
  have h := u8_lt c
  simp only [bytesOfInts, List.map_cons, List.map_nil]
  rw [wrap_u8, show (c.toNat : Int) % 256 = (c.toNat : Int) by omega, Int.toNat_natCast]
  congr 1
  apply UInt8.toNat_inj.1
  rw [toNat_ofNat]
  omega

theorem split9 {t : Str} (h : 9 ≤ t.length) : [t.getD 0 0] ++ sub t 1 9 ++ t.drop 9 = t := by
  match t, h with
  | x :: r, h =>
    show [x] ++ sub (x :: r) 1 9 ++ (x :: r).drop 9 = x :: r
    have e : sub (x :: r) 1 9 = r.take 8 := rfl
    rw [e]
    show x :: (r.take 8 ++ r.drop 8) = x :: r
    rw [List.take_append_drop]

/-- What has a packet has its bytes. -/
theorem bytes_pOf {t : Str} {p : Packet} (h : 9 ≤ t.length) (hp : pOf t = some p) : pBytes p = t := by
  have hb : be (sOf t).toNat 8 = sub t 1 9 := by
    unfold sOf
    rw [Int.toNat_natCast, be_unbe 8 _ (sub_len (by omega))]
  have key : ∀ (hel : Hello) (blkv : Int) (data : Str), ((bif decide (kOf t = 1) then hBytes hel else []) ++ ((bif blk (kOf t) then bytesOfInts [IntKind.u8.wrap blkv] else []) ++ data)) = t.drop 9 →
      pBytes ⟨kOf t, sOf t, hel, blkv, data⟩ = t := by
    intro hel blkv data he
    unfold pBytes
    dsimp only
    rw [he, hb]
    unfold kOf
    rw [u8_back]
    exact split9 h
  unfold pOf at hp
  split at hp
  · rename_i e1
    split at hp
    · rename_i e2
      cases hp
      refine key _ _ _ ?_
      rw [decide_eq_true e1, e1, cond_true]
      rcases decV_cases (t.drop 9) with ⟨e, hl, h16, _⟩ | e
      · rw [e]
        show hBytes (hOfBytes (t.drop 9)) ++ ([] ++ []) = _
        rw [hBytes_of hl h16]
        simp
      · rw [e] at e2; cases e2
    · cases hp
  · rename_i e1
    split at hp
    · rename_i e2
      split at hp
      · cases hp
      · rename_i e3
        cases hp
        refine key _ _ _ ?_
        rw [decide_eq_false e1, e2, cond_false, cond_true, u8_back]
        match ht : t.drop 9, e3 with
        | c :: r, _ => rfl
    · rename_i e2
      cases hp
      refine key _ _ _ ?_
      rw [decide_eq_false e1, show blk (kOf t) = false by simpa using e2]
      rfl

theorem fin13 {p : Packet} {t : Str} (hw : wHello p.hello) (hs : inK .u64 p.session) (hb : pBytes p = t) {K : (Packet × Int) → Prop} (h : K (okP p)) :
    ref13_Right.F p fun r => bif !r then K (zeroP, 2) else ref13_bytes.F p fun r8 => bif !(r8 == t) then K (zeroP, 2) else K (p, 0) := by
  refine ref13_Right_ok hw (cond_ok (fun e => ?_) (fun e => ?_))
  · rw [okP_f (not_t e)] at h; exact h
  · rw [okP_t (not_f e)] at h
    refine ref13_bytes_ok hw hs (not_f e) (cond_f ?_ h)
    rw [hb]
    simp

theorem sess {t : Str} (h : 9 ≤ t.length) : inK .u64 (sOf t) := by
  have h1 := unbe_lt 8 (sub t 1 9) (sub_len (by omega))
  have h2 : (256 : Nat) ^ 8 = 18446744073709551616 := by decide
  show (0 : Int) ≤ (unbe (sub t 1 9) : Int) ∧ (unbe (sub t 1 9) : Int) ≤ 18446744073709551615
  omega

theorem ref13_Decode_ok {b : Str} (hs : b.length ≤ 10000) {K : (Packet × Int) → Prop} (h : K (decP b)) : ref13_Decode.F b K := by
  unfold ref13_Decode.F
  unfold decP at h
  have hol := openV_len b
  refine ref02_Open_ok (wStr_of (by omega)) (cond_ok (fun e1 => ?_) (fun e1 => ?_))
  · rw [if_pos (by simpa using e1)] at h; exact h
  rw [if_neg (by simpa using e1)] at h
  generalize (openV b).1 = t at h hol ⊢
  refine cond_ok (fun e2 => ?_) (fun e2 => ?_)
  · have e2 : (t.length : Int) < 9 := of_decide_eq_true e2
    rw [if_pos (by omega)] at h; exact h
  have e2 : ¬ (t.length : Int) < 9 := of_decide_eq_false e2
  have hl : 9 ≤ t.length := by omega
  rw [if_neg (by omega)] at h
  unfold decT at h
  refine gd_ok (by simp; omega) ?_
  show ref01_Get64.F (sub t 1 9) _
  refine ref01_Get64_ok ?_
  rw [getN_of (sub_len (by omega))]
  refine oget_ok (getI_lit 0 (i := 0) (by omega)) (gd_ok (by simp; omega) ?_)
  have e0 : IntKind.i64.wrap ((t.getD 0 0).toNat : Int) = kOf t := by
    have := u8_lt (t.getD 0 0)
    rw [wrap_i64 (by omega)]
    rfl
  have es : sub t (Int.toNat 9) t.length = t.drop 9 := sub_drop
  rw [e0, es]
  have hpB := fun p => bytes_pOf (p := p) hl
  refine cond_ok (fun e4 => ?_) (fun e4 => ?_)
  · have e4 : kOf t = 1 := by simpa using e4
    unfold pOf at h hpB
    rw [if_pos e4] at h hpB
    refine ref10_Decode_ok (cond_ok (fun e5 => ?_) (fun e5 => ?_))
    · rw [if_neg (by simpa using e5)] at h
      exact h
    · have e5' : (decV (t.drop 9)).2 = 0 := by simpa using e5
      rw [if_pos e5'] at h hpB
      refine ref13_block_ok ?_
      rw [show blk (kOf t) = false by rw [e4]; rfl]
      exact cond_f rfl (fin13 (p := ⟨kOf t, sOf t, (decV (t.drop 9)).1, 0, []⟩) (wDec _) (sess hl) (hpB _ rfl) h)
  · have e4 : kOf t ≠ 1 := by simpa using e4
    unfold pOf at h hpB
    rw [if_neg e4] at h hpB
    refine ref13_block_ok (cond_ok (fun e5 => ?_) (fun e5 => ?_))
    · rw [if_pos e5] at h hpB
      refine cond_ok (fun e6 => ?_) (fun e6 => ?_)
      · have e6 : ((t.drop 9).length : Int) > 0 := of_decide_eq_true e6
        have hpos : 0 < (t.drop 9).length := by omega
        have hne : t.drop 9 ≠ [] := List.length_pos_iff.1 hpos
        rw [if_neg hne] at h hpB
        refine oget_ok (getI_lit 0 (i := 0) hpos) (gd_ok (by simp; simp at hpos; omega) ?_)
        have es2 : sub (t.drop 9) (Int.toNat 1) (t.drop 9).length = (t.drop 9).drop 1 := sub_drop
        have e7 : IntKind.i64.wrap (((t.drop 9).getD 0 0).toNat : Int) = (((t.drop 9).getD 0 0).toNat : Int) := by
          have := u8_lt ((t.drop 9).getD 0 0)
          exact wrap_i64 (by omega)
        rw [es2, e7]
        exact fin13 (p := ⟨kOf t, sOf t, zeroH, (((t.drop 9).getD 0 0).toNat : Int), (t.drop 9).drop 1⟩) wZ (sess hl) (hpB _ rfl) h
      · have e6 : ¬ ((t.drop 9).length : Int) > 0 := of_decide_eq_false e6
        have hnil : t.drop 9 = [] := List.eq_nil_of_length_eq_zero (by omega)
        rw [if_pos hnil] at h
        rw [hnil]
        refine ref13_Right_ok (p := ⟨kOf t, sOf t, zeroH, 0, []⟩) wZ (cond_ok (fun _ => h) (fun e => ?_))
        refine ref13_bytes_ok (p := ⟨kOf t, sOf t, zeroH, 0, []⟩) wZ (sess hl) (not_f e) (cond_t ?_ h)
        have hlen : (pBytes ⟨kOf t, sOf t, zeroH, 0, []⟩).length = 10 := by
          unfold pBytes
          dsimp only
          rw [decide_eq_false e4, e5]
          simp only [cond_true, cond_false, List.length_append, one_len, be_length, List.length_nil]
        have h9 : t.length = 9 := by
          have : (t.drop 9).length = 0 := by rw [hnil]; rfl
          rw [List.length_drop] at this
          omega
        have hne : pBytes ⟨kOf t, sOf t, zeroH, 0, []⟩ ≠ t := fun hh => by rw [hh] at hlen; omega
        have : (pBytes ⟨kOf t, sOf t, zeroH, 0, []⟩ == t) = false := by simpa using hne
        show (!(pBytes ⟨kOf t, sOf t, zeroH, 0, []⟩ == t)) = true
        rw [this]
        rfl
    · rw [if_neg (by rw [e5]; simp)] at h hpB
      exact fin13 (p := ⟨kOf t, sOf t, zeroH, 0, t.drop 9⟩) wZ (sess hl) (hpB _ rfl) h

/-! ### There and back -/
theorem parts9 {c : UInt8} {x r : Str} (hx : x.length = 8) : kOf ([c] ++ x ++ r) = (c.toNat : Int) ∧ sub ([c] ++ x ++ r) 1 9 = x ∧ ([c] ++ x ++ r).drop 9 = r := by
  have h1 : sub ([c] ++ x ++ r) 1 9 = x := by
    show ((c :: (x ++ r)).take 9).drop 1 = x
    show (x ++ r).take 8 = x
    rw [← hx]; simp
  have h2 : ([c] ++ x ++ r).drop 9 = r := by
    show (x ++ r).drop 8 = r
    rw [← hx]; simp
  exact ⟨rfl, h1, h2⟩

theorem kind_byte {k : Int} (h : 0 ≤ k ∧ k ≤ 255) : ∃ c : UInt8, bytesOfInts [IntKind.u8.wrap k] = [c] ∧ (c.toNat : Int) = k := by
  obtain ⟨n, rfl⟩ : ∃ n : Nat, k = n := ⟨k.toNat, by omega⟩
  refine ⟨UInt8.ofNat n, ?_, ?_⟩
  · simp only [bytesOfInts, List.map_cons, List.map_nil]
    rw [wrap_u8, show (n : Int) % 256 = (n : Int) by omega, Int.toNat_natCast]
  · rw [toNat_ofNat]; omega

theorem pOf_pBytes {p : Packet} (hw : wHello p.hello) (hs : inK .u64 p.session) (hr : pRight p = true) : pOf (pBytes p) = some p := by
  obtain ⟨hk, hH, hB, hT⟩ := right_parts hr
  obtain ⟨kind, session, hello, block, data⟩ := p
  have hs : 0 ≤ session ∧ session ≤ 18446744073709551615 := hs
  obtain ⟨s, rfl⟩ : ∃ n : Nat, session = n := ⟨session.toNat, by omega⟩
  dsimp only at *
  obtain ⟨c, ec, ek⟩ := kind_byte (k := kind) (by omega)
  have e0 : pBytes ⟨kind, (s : Int), hello, block, data⟩ = [c] ++ be s 8 ++ ((bif decide (kind = 1) then hBytes hello else []) ++ ((bif blk kind then bytesOfInts [IntKind.u8.wrap block] else []) ++ data)) := by
    unfold pBytes
    dsimp only
    rw [ec, Int.toNat_natCast]
  generalize hrest : ((bif decide (kind = 1) then hBytes hello else []) ++ ((bif blk kind then bytesOfInts [IntKind.u8.wrap block] else []) ++ data)) = rest at e0
  obtain ⟨p1, p2, p3⟩ := parts9 (c := c) (r := rest) (be_length 8 s)
  rw [← e0] at p1 p2 p3
  have ps : sOf (pBytes ⟨kind, (s : Int), hello, block, data⟩) = (s : Int) := by
    unfold sOf
    rw [p2, unbe_be]
    congr 1
    exact Nat.mod_eq_of_lt (by have : (256 : Nat) ^ 8 = 18446744073709551616 := by decide
                               omega)
  unfold pOf
  rw [p1, p3, ps, ek]
  unfold pHel at hH
  unfold pBlk at hB
  dsimp only at hH hB
  by_cases h1 : kind = 1
  · subst h1
    have hR : hRight hello = true := hH
    have hb0 : block = 0 := by simpa [blk_one] using hB
    have hd : data = [] := by simpa [pTail, dat] using hT
    subst hb0
    subst hd
    have hr2 : rest = hBytes hello := by
      rw [← hrest]
      show hBytes hello ++ ([] ++ []) = _
      simp
    rw [if_pos rfl, hr2, decV_encV hw hR, if_pos rfl]
  · rw [if_neg h1]
    rw [decide_eq_false h1] at hrest hH
    have hz : hello = zeroH := hEq_of hH
    subst hz
    by_cases h2 : blk kind = true
    · rw [if_pos h2]
      rw [h2] at hrest hB
      have hb0 : 0 ≤ block ∧ block < 32 := by simpa using hB
      obtain ⟨d, ed, edk⟩ := kind_byte (k := block) (by omega)
      have hr2 : rest = d :: data := by
        rw [← hrest, ed]
        rfl
      rw [hr2, if_neg (by simp)]
      show some (⟨kind, (s : Int), zeroH, (d.toNat : Int), data⟩ : Packet) = _
      rw [edk]
    · have h2 : blk kind = false := by simpa using h2
      rw [if_neg (by rw [h2]; simp)]
      rw [h2] at hrest hB
      have hb0 : block = 0 := by simpa using hB
      subst hb0
      rw [← hrest]
      rfl

theorem pBytes_min (p : Packet) : 9 ≤ (pBytes p).length := by
  unfold pBytes
  rw [List.length_append, List.length_append, one_len, be_length]
  omega

theorem decP_encP {p : Packet} (hw : wHello p.hello) (hs : inK .u64 p.session) (hr : pRight p = true) : decP (sealV (pBytes p)) = (p, 0) := by
  unfold decP
  rw [openV_seal, if_neg (by simp), if_neg (by have := pBytes_min p; dsimp only; omega)]
  unfold decT
  dsimp only
  rw [pOf_pBytes hw hs hr]
  exact okP_t hr

theorem decP_cases (b : Str) : (∃ p, decP b = (p, 0) ∧ pRight p = true ∧ wHello p.hello ∧ inK .u64 p.session ∧ sealV (pBytes p) = b) ∨ ∃ e, e ≠ 0 ∧ decP b = (zeroP, e) := by
  unfold decP
  by_cases h1 : (openV b).2 ≠ 0
  · rw [if_pos h1]; exact .inr ⟨_, h1, rfl⟩
  rw [if_neg h1]
  by_cases h2 : (openV b).1.length < 9
  · rw [if_pos h2]; exact .inr ⟨2, by decide, rfl⟩
  rw [if_neg h2]
  have hseal : sealV (openV b).1 = b := by
    have h1 : (openV b).2 = 0 := Classical.not_not.1 h1
    unfold openV at h1 ⊢
    split at h1
    · cases h1
    · rename_i h3
      rw [if_neg h3]
      split at h1
      · rename_i h4
        rw [if_pos h4]
        exact h4
      · cases h1
  generalize ht : (openV b).1 = t at h2 hseal ⊢
  unfold decT
  cases hp : pOf t with
  | none => exact .inr ⟨2, by decide, rfl⟩
  | some p =>
    have hB := bytes_pOf (by omega) hp
    cases hr : pRight p with
    | false => exact .inr ⟨2, by decide, okP_f hr⟩
    | true =>
      refine .inl ⟨p, okP_t hr, hr, ?_, ?_, by rw [hB]; exact hseal⟩
      · unfold pOf at hp
        split at hp
        · split at hp
          · cases hp; exact wDec _
          · cases hp
        · split at hp
          · split at hp
            · cases hp
            · cases hp; exact wZ
          · cases hp; exact wZ
      · have := sess (t := t) (by omega)
        unfold pOf at hp
        split at hp
        · split at hp
          · cases hp; exact this
          · cases hp
        · split at hp
          · split at hp
            · cases hp
            · cases hp; exact this
          · cases hp; exact this

def readP (b : Str) (session : Int) : Packet × Int := if (decP b).2 = 0 then (if (decP b).1.session = session then decP b else (zeroP, 16)) else decP b
theorem packet_Read_ok {b : Str} {session : Int} (hs : b.length ≤ 10000) {K : (Packet × Int) → Prop} (h : K (readP b session)) : packet_Read.F b session K := by
  unfold packet_Read.F
  unfold readP at h
  refine packet_Decode_ok hs (cond_ok (fun e => ?_) (fun e => ?_))
  · rw [if_pos (by simpa using e)] at h
    refine cond_ok (fun e2 => ?_) (fun e2 => ?_)
    · rw [if_neg (by simpa using e2)] at h; exact h
    · rw [if_pos (by simpa using e2)] at h; exact h
  · rw [if_neg (by simpa using e)] at h
    exact h
theorem ref13_Read_ok {b : Str} {session : Int} (hs : b.length ≤ 10000) {K : (Packet × Int) → Prop} (h : K (readP b session)) : ref13_Read.F b session K := by
  unfold ref13_Read.F
  unfold readP at h
  refine ref13_Decode_ok hs (cond_ok (fun e => ?_) (fun e => ?_))
  · have e : (decP b).2 ≠ 0 := by simpa using e
    rw [if_neg e] at h
    rcases decP_cases b with ⟨p, e1, _⟩ | ⟨n, hn, e1⟩
    · rw [e1] at e; exact absurd rfl e
    · rw [e1] at h ⊢; exact h
  · have e : (decP b).2 = 0 := by simpa using e
    rw [if_pos e] at h
    refine cond_ok (fun e2 => ?_) (fun e2 => ?_)
    · rw [if_neg (by simpa using e2)] at h; exact h
    · rw [if_pos (by simpa using e2)] at h
      rw [show decP b = ((decP b).1, (decP b).2) from rfl, e] at h
      exact h
end Gm

/- The laws of layer 13 are true: the laws. -/
set_option maxRecDepth 100000
namespace Gm
open Go

def pA : Packet := ⟨2, 258, zeroH, 3, [97, 98, 99, 100, 101, 102, 103, 104]⟩
def pEnd : Packet := ⟨8, 0, zeroH, 0, []⟩
def pHi : Packet := ⟨1, 0, ⟨1, ⟨1, 0, 0, 0⟩, false, false, false, false, 0⟩, 0, []⟩
def pBad : Packet := ⟨8, 0, zeroH, 1, []⟩
theorem rpA : pRight pA = true := by decide
theorem rpEnd : pRight pEnd = true := by decide
theorem rpHi : pRight pHi = true := by decide
theorem rpBad : pRight pBad = false := by decide
theorem rpZ : pRight zeroP = false := by decide
theorem wHi : wHello pHi.hello := by
  refine ⟨?_, ⟨?_, ?_, ?_, ?_⟩, ?_⟩ <;> exact ⟨by decide, by decide⟩
theorem u0 : inK .u64 0 := ⟨by decide, by decide⟩
theorem u258 : inK .u64 258 := ⟨by decide, by decide⟩
theorem encP_t {p : Packet} (h : pRight p = true) : encP p = (sealV (pBytes p), 0) := by unfold encP; rw [if_pos h]
theorem encP_f {p : Packet} (h : pRight p = false) : encP p = ([], 1) := by unfold encP; rw [if_neg (by rw [h]; simp)]
theorem encP_len {p : Packet} : (encP p).1.length ≤ 200 := by
  cases h : pRight p with
  | true =>
    rw [encP_t h]
    have := pBytes_len h
    show (sealV (pBytes p)).length ≤ 200
    rw [sealV_length]; omega
  | false => rw [encP_f h]; decide

theorem law13_alive_ok {K : Bool → Prop} (k : K true) : law13_alive.F K := by
  unfold law13_alive.F
  have dA : decP (sealV (pBytes pA)) = (pA, 0) := decP_encP wZ u258 rpA
  have lA : (sealV (pBytes pA)).length = 22 := by rw [sealV_length]; rfl
  have lE : (sealV (pBytes pEnd)).length = 13 := by rw [sealV_length]; rfl
  have lH : (sealV (pBytes pHi)).length = 51 := by rw [sealV_length]; rfl
  have r1 : readP (sealV (pBytes pA)) 258 = (pA, 0) := by
    unfold readP
    rw [dA, if_pos rfl, if_pos (show pA.session = 258 from rfl)]
  have r2 : readP (sealV (pBytes pA)) 259 = (zeroP, 16) := by
    unfold readP
    rw [dA, if_pos rfl, if_neg (by decide)]
  have d3 : decP [97, 98, 99] = (zeroP, 2) := by
    unfold decP
    have : openV [97, 98, 99] = ([], 2) := by unfold openV; rw [if_pos (by decide)]
    rw [this, if_pos (by decide)]
  refine packet_Encode_ok (p := pA) wZ u258 ?_
  rw [encP_t rpA]
  refine packet_Decode_ok (by rw [lA]; decide) ?_
  rw [dA]
  refine packet_Read_ok (by rw [lA]; decide) ?_
  rw [r1]
  refine packet_Read_ok (by rw [lA]; decide) ?_
  rw [r2]
  refine packet_Encode_ok (p := zeroP) wZ u0 ?_
  rw [encP_f rpZ]
  refine packet_Decode_ok (by decide) ?_
  rw [d3]
  refine packet_Encode_ok (p := pEnd) wZ u0 ?_
  rw [encP_t rpEnd]
  refine packet_Encode_ok (p := pHi) wHi u0 ?_
  rw [encP_t rpHi]
  refine cond_t rfl (cond_t rfl (cond_t rfl (cond_t rfl (cond_t rfl (cond_t rfl (cond_t rfl (cond_t rfl ?_)))))))
  refine cond_t (by rw [lA]; rfl) (cond_t (by rw [lE]; rfl) (cond_t (by rw [lH]; rfl) (cond_t (by decide) (cond_t (by decide) ?_))))
  refine packet_Right_ok (p := pA) wZ ?_
  rw [rpA]
  refine cond_t rfl (packet_Right_ok (p := pBad) wZ ?_)
  rw [rpBad]
  exact k

theorem law13_PacketEncodes_true {p : Packet} (hw : wHello p.hello) (hs : inK .u64 p.session) : law13_PacketEncodes.F p (fun r => r = true) := by
  unfold law13_PacketEncodes.F
  refine law13_alive_ok (cond_f rfl (cond_ok (fun _ => rfl) (fun _ => ?_)))
  exact packet_Encode_ok hw hs (ref13_Encode_ok hw hs (cond_t (by simp) (cond_t (by simp) (packet_Right_ok hw (ref13_Right_ok hw (by simp))))))

theorem law13_PacketDecodes_true {b : Str} {session : Int} : law13_PacketDecodes.F b session (fun r => r = true) := by
  unfold law13_PacketDecodes.F
  refine law13_alive_ok (cond_f rfl (cond_ok (fun _ => rfl) (fun hl => ?_)))
  have hl : ¬ (b.length : Int) > 500 := of_decide_eq_false hl
  have h1 : b.length ≤ 10000 := by omega
  have h2 : (sealV b).length ≤ 10000 := by rw [sealV_length]; omega
  refine ref02_Seal_ok (wStr_of (by omega)) (packet_Decode_ok h1 (ref13_Decode_ok h1 (packet_Decode_ok h2 (ref13_Decode_ok h2 (packet_Read_ok h1 (ref13_Read_ok h1 ?_))))))
  exact cond_t (by simp) (cond_t (by simp) (cond_t (by simp) (cond_t (by simp) (cond_t (by simp) (by simp)))))

theorem ixor_one {s : Nat} (h : s < 18446744073709551616) : ixor .u64 (s : Int) 1 ≠ (s : Int) := by
  have e := ixor_nat (k := .u64) rfl (x := s) (y := 1) h (by decide)
  rw [show (1 : Int) = ((1 : Nat) : Int) from rfl, e]
  intro hh
  have hh : s ^^^ 1 = s := by exact_mod_cast hh
  have := congrArg (fun n => n ^^^ s) hh
  simp only [Nat.xor_self] at this
  rw [Nat.xor_comm, ← Nat.xor_assoc, Nat.xor_self] at this
  simp at this

theorem law13_PacketBack_true {p : Packet} {b : Str} (hw : wHello p.hello) (hs : inK .u64 p.session) : law13_PacketBack.F p b (fun r => r = true) := by
  unfold law13_PacketBack.F
  refine law13_alive_ok (cond_f rfl (cond_ok (fun _ => rfl) (fun hl => cond_ok (fun _ => rfl) (fun _ => ?_))))
  have hl : ¬ (b.length : Int) > 500 := of_decide_eq_false hl
  have h1 : b.length ≤ 10000 := by omega
  have tail : ∀ {K' : Prop}, packet_Decode.F b (fun r5 => (bif (r5.2 != 0) then (((r5.1.kind == 0) && ((r5.1.session == 0) && (((r5.1.hello.blocks == 0) && (((r5.1.hello.vector.current == 0) && ((r5.1.hello.vector.bitmap == 0) && (((r5.1.hello.vector.old0 == 0) && ((r5.1.hello.vector.old1 == 0) && true)) && true))) && ((r5.1.hello.inc == false) && ((r5.1.hello.was == false) && ((r5.1.hello.dis == false) && ((r5.1.hello.pri == false) && ((r5.1.hello.mask == 0) && true))))))) && ((r5.1.block == 0) && ((r5.1.data == ([] : Str)) && true))))) = true) else (packet_Encode.F r5.1 fun r6 => (bif (r6.2 == 0) then ((r6.1 == b) = true) else (false = true))))) := by
    intro _
    refine packet_Decode_ok h1 ?_
    rcases decP_cases b with ⟨q, e, hr, hq, hqs, hb⟩ | ⟨n, hn, e⟩
    · rw [e]
      refine cond_f rfl (packet_Encode_ok hq hqs ?_)
      rw [encP_t hr]
      refine cond_t rfl ?_
      rw [hb]
      simp
    · rw [e]
      exact cond_t (by simpa using hn) rfl
  refine packet_Encode_ok hw hs (cond_ok (fun e => ?_) (fun _ => tail (K' := True)))
  have hr : pRight p = true := by
    cases h : pRight p with
    | true => rfl
    | false => rw [encP_f h] at e; cases e
  rw [encP_t hr]
  have hlen : (sealV (pBytes p)).length ≤ 10000 := by have := pBytes_len hr; rw [sealV_length]; omega
  have hd := decP_encP hw hs hr
  have r1 : readP (sealV (pBytes p)) p.session = (p, 0) := by
    unfold readP
    rw [hd, if_pos rfl, if_pos rfl]
  have hx : ixor .u64 p.session 1 ≠ p.session := by
    have hs : 0 ≤ p.session ∧ p.session ≤ 18446744073709551615 := hs
    obtain ⟨s, e⟩ : ∃ n : Nat, p.session = n := ⟨p.session.toNat, by omega⟩
    rw [e]
    exact ixor_one (by omega)
  have r2 : readP (sealV (pBytes p)) (ixor .u64 p.session 1) = (zeroP, 16) := by
    unfold readP
    rw [hd, if_pos rfl, if_neg (fun hh => hx hh.symm)]
  refine packet_Read_ok hlen ?_
  rw [r1]
  refine packet_Read_ok hlen ?_
  rw [r2]
  exact cond_f rfl (cond_f (by simp) (cond_f rfl (tail (K' := True))))

theorem law13_PacketKinds_true {p : Packet} (hw : wHello p.hello) (hs : inK .u64 p.session) : law13_PacketKinds.F p (fun r => r = true) := by
  unfold law13_PacketKinds.F
  refine law13_alive_ok (cond_f rfl (ref13_Right_ok hw (cond_ok (fun _ => rfl) (fun e => ?_))))
  have hr : pRight p = true := not_f e
  refine packet_Encode_ok hw hs ?_
  rw [encP_t hr]
  obtain ⟨hk, hH, hB, hT⟩ := right_parts hr
  obtain ⟨kind, session, hello, block, data⟩ := p
  dsimp only at hk
  obtain ⟨c, ec, ek⟩ := kind_byte (k := kind) (by omega)
  have eB : sealV (pBytes ⟨kind, session, hello, block, data⟩) = c :: ((be session.toNat 8 ++ ((bif decide (kind = 1) then hBytes hello else []) ++ ((bif blk kind then bytesOfInts [IntKind.u8.wrap block] else []) ++ data))) ++ be (fnv (pBytes ⟨kind, session, hello, block, data⟩)) 4) := by
    have eP : pBytes ⟨kind, session, hello, block, data⟩ = c :: (be session.toNat 8 ++ ((bif decide (kind = 1) then hBytes hello else []) ++ ((bif blk kind then bytesOfInts [IntKind.u8.wrap block] else []) ++ data))) := by
      unfold pBytes
      dsimp only
      rw [ec]
      simp only [List.cons_append, List.nil_append]
    unfold sealV
    generalize fnv (pBytes ⟨kind, session, hello, block, data⟩) = m
    rw [eP]
    rfl
  have el : (sealV (pBytes ⟨kind, session, hello, block, data⟩)).length = 13 + ((bif decide (kind = 1) then hBytes hello else []).length + ((bif blk kind then bytesOfInts [IntKind.u8.wrap block] else []).length + data.length)) := by
    rw [eB]
    simp only [List.length_cons, List.length_append, be_length]
    omega
  dsimp only
  generalize sealV (pBytes ⟨kind, session, hello, block, data⟩) = S at eB el ⊢
  have first : ∀ {n : Int}, (List.length S : Int) = n → (bif ((0 : Int) == 0) then (bif ((List.length S : Int) == n) then (oget (getI S 0) fun v4 => (((IntKind.i64.wrap (v4.toNat : Int)) == kind) = true)) else (false = true)) else (false = true)) := by
    intro n hn
    refine cond_t rfl (cond_t (by rw [hn]; simp) ?_)
    refine oget_ok (v := c) (by rw [eB]; rfl) ?_
    have := u8_lt c
    rw [wrap_i64 (by omega), ek]
    simp
  have dl : dat kind = true → data.length = 8 := by
    intro h
    unfold pTail at hT
    dsimp only at hT
    rw [h, cond_true] at hT
    have : (data.length : Int) = 8 := by simpa using hT
    omega
  have d0 : dat kind = false → data.length = 0 := by
    intro h
    unfold pTail at hT
    dsimp only at hT
    rw [h, cond_false] at hT
    have : data = [] := by simpa using hT
    rw [this]; rfl
  have t : ∀ {n : Int}, (kind == n) = true → kind = n := fun e => by simpa using e
  have f : ∀ {n : Int}, (kind == n) = false → kind ≠ n := fun e => by simpa using e
  refine cond_ok (fun e => ?_) (fun e1 => ?_)
  · cases t e
    refine first (n := 51) ?_
    rw [el, d0 rfl]
    show ((13 + ((hBytes hello).length + (([] : Str).length + 0)) : Nat) : Int) = 51
    rw [hBytes_length]; rfl
  refine cond_ok (fun e => ?_) (fun e2 => ?_)
  · cases t e; refine first (n := 22) ?_; rw [el, dl rfl]; rfl
  refine cond_ok (fun e => ?_) (fun e3 => ?_)
  · cases t e; refine first (n := 22) ?_; rw [el, dl rfl]; rfl
  refine cond_ok (fun e => ?_) (fun e4 => ?_)
  · cases t e; refine first (n := 14) ?_; rw [el, d0 rfl]; rfl
  refine cond_ok (fun e => ?_) (fun e5 => ?_)
  · cases t e; refine first (n := 14) ?_; rw [el, d0 rfl]; rfl
  refine cond_ok (fun e => ?_) (fun e6 => ?_)
  · cases t e; refine first (n := 14) ?_; rw [el, d0 rfl]; rfl
  refine cond_ok (fun e => ?_) (fun e7 => ?_)
  · cases t e; refine first (n := 14) ?_; rw [el, d0 rfl]; rfl
  have e1 := f e1
  have e2 := f e2
  have e3 := f e3
  have e4 := f e4
  have e5 := f e5
  have e6 := f e6
  have e7 := f e7
  have hb : blk kind = false := decide_eq_false (by omega)
  have hd : dat kind = false := decide_eq_false (by omega)
  refine first (n := 13) ?_
  rw [el, d0 hd, hb, decide_eq_false e1]
  rfl
end Gm
