/- Clusters, on disks that hold stores. -/
import Derived.Test.YtohdbkaolchifaaGreatGnP7
set_option maxRecDepth 100000
namespace Gm
open Go
def CW (B : Int) (c : Cluster) : Prop := NW B c.n0 ∧ NW B c.n1
theorem CW.node {B : Int} {c : Cluster} (h : CW B c) (i : Bool) : NW B (nodeC c i) := by cases i; exact h.1; exact h.2
theorem cw_set {B : Int} {c : Cluster} {n : Node} (h : CW B c) (hn : NW B n) (i : Bool) : CW B (setN c i n) := by
  cases i
  · exact ⟨hn, h.2⟩
  · exact ⟨h.1, hn⟩
theorem cw_want {B : Int} {c : Cluster} (h : CW B c) (i w : Bool) : CW B (setW c i w) := by cases i <;> exact h
theorem cw_lose {B : Int} {N : Nat} {c : CO} (o : OkC N c.1) (h : CW B c.1) (i : Bool) : CW B (loseC c i).1 := by
  unfold loseC
  split
  · exact h
  rename_i c1
  dsimp only
  have hu : (nodeC c.1 i).up = true := by simpa using c1
  have h1 := cw_set h (nw_lose (o.node i) ((h.node i).2 hu)) i
  split
  · exact cw_want h1 _ _
  · exact h1
theorem cw_end {B : Int} {N : Nat} {c : Cluster} {out : List Outp} (h64 : 64 ≤ N) (o : OkC N c) (h : CW B c) : CW B (endC c out).1 := by
  have o1 : OkC N { c with link := closeL c.link } := ⟨o.a, o.b, ⟨o.l.s, Nat.zero_le _, Nat.zero_le _, fun x h => (by cases h), fun x h => (by cases h)⟩⟩
  have h1 : CW B { c with link := closeL c.link } := h
  exact cw_lose (c := loseC ({ c with link := closeL c.link }, out) false) (okC_lose (c := ({ c with link := closeL c.link }, out)) o1 h64 false) (cw_lose (c := ({ c with link := closeL c.link }, out)) o1 h1 false) true
theorem cw_put {B : Int} {c : Cluster} {l : List Outp} (h : CW B c) (i : Bool) : CW B (putC c i l) := by
  unfold putC
  split <;> exact h
theorem cw_after {B : Int} {N : Nat} {c : Cluster} {r : NO} (h64 : 64 ≤ N) (o : OkC N c) (h : CW B c) (i : Bool) (hn : OkN (N + 4) r.1) (hl : OkO 3 r.2) (hw : NW B r.1) : CW B (afterC c i r).1 := by
  have o1 := okC_put (okC_set o (by omega : N ≤ N + 4) hn i) i hl
  have h1 : CW B (putC (setN c i r.1) i r.2) := cw_put (cw_set h hw i) i
  unfold afterC
  dsimp only
  have o2 : OkC (N + 7) (if r.1.up = false then setW (putC (setN c i r.1) i r.2) i false else putC (setN c i r.1) i r.2) ∧ CW B (if r.1.up = false then setW (putC (setN c i r.1) i r.2) i false else putC (setN c i r.1) i r.2) := by
    split
    · exact ⟨okC_want o1 _ _, cw_want h1 _ _⟩
    · exact ⟨o1, h1⟩
  generalize (if r.1.up = false then setW (putC (setN c i r.1) i r.2) i false else putC (setN c i r.1) i r.2) = c2 at o2 ⊢
  split
  · exact o2.2
  · refine cw_end (N := N + 7) (by omega) ?_ ?_
    · split
      · exact ⟨o2.1.a, o2.1.b, o2.1.l⟩
      · exact o2.1
    · split
      · exact o2.2
      · exact o2.2
theorem cw_connect {B : Int} {N : Nat} {c : Cluster} (h64 : 64 ≤ N) (o : OkC N c) (h : CW B c) (i : Bool) : CW B (connectC c i).1 := by
  unfold connectC
  split
  · exact h
  dsimp only
  split
  · exact cw_want h _ _
  have o2 := okC_open (okC_want o i true)
  have h2 : CW B { setW c i true with link := openL (setW c i true).link } := cw_want h i true
  have oa := okC_after (r := beginN (setW c i true).n0 (openL (setW c i true).link).session) o2 h64 false ((okN_begin o2.a o2.l.s).up (by omega)) (okO_begin _ _)
  have ha := cw_after (r := beginN (setW c i true).n0 (openL (setW c i true).link).session) h64 o2 h2 false ((okN_begin o2.a o2.l.s).up (by omega)) (okO_begin _ _) h2.1
  exact cw_after (N := N + 15) (by omega) oa ha true ((okN_begin oa.b oa.l.s).up (by omega)) (okO_begin _ _) ha.2
theorem cw_at {B : Int} {N : Nat} {c : Cluster} {e : Event} (h64 : 64 ≤ N) (o : OkC N c) (oe : OkE e) (h : CW B c) (i : Bool) : CW B (doAt c e i).1 := by
  have on := o.node i
  have hn := h.node i
  have up : ∀ {r : NO}, OkN (N + 4) r.1 → OkO 3 r.2 → NW B r.1 → CW B (afterC c i r).1 := fun h1 h2 h3 => cw_after h64 o h i h1 h2 h3
  -- what a node that is down answers leaves it as it was
  have dn : ∀ {f : Node → NO}, (∀ n : Node, n.up = false → (f n).1 = n) → ((nodeC c i).up = true → NW B (f (nodeC c i)).1) → NW B (f (nodeC c i)).1 := by
    intro f h1 h2
    cases hu : (nodeC c i).up with
    | true => exact h2 hu
    | false => rw [h1 _ hu]; exact hn
  unfold doAt
  refine ite_of (P := fun r : CO => CW B r.1) (fun _ => ?_) (fun _ => ?_)
  · exact up (okN_promote on h64) (okO_promote _ _) (dn (f := fun n => promoteN n e.id) (fun n hu => by unfold promoteN; rw [if_pos hu]; rfl) (fun hu => nw_promote on (hn.2 hu)))
  refine ite_of (P := fun r : CO => CW B r.1) (fun _ => ?_) (fun _ => ?_)
  · exact up (okN_demote on h64) (okO_demote _ _) (dn (f := fun n => demoteN n e.id) (fun n hu => by unfold demoteN; rw [if_pos hu]; rfl) (fun hu => nw_demote on (hn.2 hu)))
  refine ite_of (P := fun r : CO => CW B r.1) (fun _ => ?_) (fun _ => ?_)
  · exact up (okN_discard on h64) (okO_discard _ _) (dn (f := fun n => discardN n e.id) (fun n hu => by unfold discardN; rw [if_pos hu]; rfl) (fun hu => nw_discard on (hn.2 hu)))
  refine ite_of (P := fun r : CO => CW B r.1) (fun _ => ?_) (fun _ => ?_)
  · refine up (okN_read on) (okO_read _ _ _) ?_
    unfold readN
    repeat' split
    all_goals exact hn
  refine ite_of (P := fun r : CO => CW B r.1) (fun _ => ?_) (fun _ => ?_)
  · exact up (okN_write on h64) (okO_write _ _ _ _) (dn (f := fun n => writeN n e.id e.block e.data) (fun n hu => by unfold writeN; rw [if_pos hu]; rfl) (fun hu => nw_write h64 on (hn.2 hu)))
  refine ite_of (P := fun r : CO => CW B r.1) (fun _ => ?_) (fun _ => ?_)
  · exact cw_connect h64 o h i
  refine ite_of (P := fun r : CO => CW B r.1) (fun _ => ?_) (fun _ => ?_)
  · have o1 : OkC N (if e.kind = 7 then setW c i false else c) ∧ CW B (if e.kind = 7 then setW c i false else c) := by
      split
      · exact ⟨okC_want o _ _, cw_want h _ _⟩
      · exact ⟨o, h⟩
    generalize (if e.kind = 7 then setW c i false else c) = c1 at o1 ⊢
    split
    · exact cw_end h64 o1.1 o1.2
    · exact o1.2
  refine ite_of (P := fun r : CO => CW B r.1) (fun _ => ?_) (fun _ => ?_)
  · split
    · exact h
    · rename_i b r hq
      have hto := o.l.to i
      rw [hq] at hto
      have o1 : OkC N { c with link := setTo c.link i r } := ⟨o.a, o.b, okL_to o.l i (by have := hto.1; simp at this; omega) (fun x hx => hto.2 x (List.mem_cons_of_mem _ hx))⟩
      exact cw_after h64 o1 h i (okN_receive on h64) (okO_receive _ _) (nw_receive h64 on hn)
  refine ite_of (P := fun r : CO => CW B r.1) (fun _ => ?_) (fun _ => ?_)
  · split
    · exact up ((okN_down on).up (by omega)) (okO_nil 3) (dw_down hn.1)
    · exact h
  refine ite_of (P := fun r : CO => CW B r.1) (fun _ => ?_) (fun _ => ?_)
  · exact cw_set h (nw_attach hn) i
  refine ite_of (P := fun r : CO => CW B r.1) (fun _ => ?_) (fun _ => ?_)
  · have h0 : 0 ≤ e.num := oe.n.1
    split
    · rename_i hu
      refine up ((okN_arm on (by omega) (by omega)).up (by omega)) (okO_nil 3) ?_
      have u := hn.2 hu
      exact UpS.nw (n := setSt (nodeC c i) ⟨armV (nodeC c i).store.disk (min e.num 1000), (nodeC c i).store.sup, (nodeC c i).store.mask⟩) ⟨dw_arm u.dw, u.dead, u.bl, u.one, u.mv⟩
    · exact up (on.up (by omega)) (okO_nil 3) hn
  refine ite_of (P := fun r : CO => CW B r.1) (fun _ => ?_) (fun _ => ?_)
  · refine cw_set h ?_ i
    split
    · exact hn
    · exact hn
  refine ite_of (P := fun r : CO => CW B r.1) (fun _ => ?_) (fun _ => ?_)
  · split
    · exact h
    · exact up (okN_receive on h64) (okO_receive _ _) (nw_receive h64 on hn)
  · exact h
theorem cw_do {B : Int} {N : Nat} {c : Cluster} {e : Event} (h64 : 64 ≤ N) (o : OkC N c) (oe : OkE e) (h : CW B c) : CW B (doC c e).1 := by
  unfold doC
  split
  · exact cw_at h64 o oe h false
  split
  · exact cw_at h64 o oe h true
  · exact h
theorem cw_play {B : Int} : ∀ {l : List Event} {N : Nat} {c : Cluster}, 64 ≤ N → OkC N c → (∀ e ∈ l, OkE e) → CW B c → CW B (playC c l)
  | [], _, _, _, _, _, h => h
  | e :: l, _, _, h64, o, he, h => cw_play (l := l) (by omega) (okC_do o h64 (he e (by simp))) (fun x hx => he x (by simp [hx])) (cw_do h64 o (he e (by simp)) h)
end Gm

set_option maxRecDepth 100000
namespace Gm
open Go
theorem dw_fmt {b : Int} {g : Nat} (hb : 1 ≤ b ∧ b ≤ 32) (hg : g ≠ 0) (h64 : g < 18446744073709551616) : DW b (fmtV b g).1 := by
  unfold fmtV
  rw [if_pos ⟨hb.1, hb.2, hg⟩]
  have w : wSup (supN b g) := ⟨⟨by show (-9223372036854775808 : Int) ≤ b; omega, by show b ≤ (9223372036854775807 : Int); omega⟩, ⟨by show (0 : Int) ≤ (g : Int); omega, by show (g : Int) ≤ (18446744073709551615 : Int); omega⟩, u64_0, u64_0, u64_0⟩
  have r : supR (supN b g) = true := by
    unfold supR supN
    rw [Bool.and_eq_true]
    refine ⟨decide_eq_true hb, ?_⟩
    have : ((g : Int) == 0) = false := beq_eq_false_iff_ne.2 (by omega)
    rw [this]; rfl
  refine ⟨?_, hb, fun w m => (by cases m), fun x => ⟨fun y hy => ?_, fun w m => (by cases m)⟩⟩
  · show ((fmtS b.toNat g).length : Int) = b + 2
    unfold fmtS
    simp only [List.length_cons, List.length_replicate]
    omega
  · have hy : (fmtS b.toNat g)[x]? = some y := hy
    unfold fmtS at hy
    match x, hy with
    | 0, hy =>
      cases hy
      refine ⟨fun _ => ⟨supN b g, ?_, rfl, r, w⟩, fun h => (by cases h), fun h => (by omega)⟩
      rfl
    | 1, hy =>
      cases hy
      refine ⟨fun h => (by cases h), fun _ => ⟨0, rfl, ?_⟩, fun h => (by omega)⟩
      unfold maskR
      refine decide_eq_true ⟨hb.1, hb.2, ?_⟩
      have := Nat.two_pow_pos b.toNat
      have h2 : (2 : Int) ^ b.toNat = ((2 ^ b.toNat : Nat) : Int) := by simp
      rw [h2]
      omega
    | x + 2, hy =>
      simp only [List.getElem?_cons_succ, List.getElem?_replicate] at hy
      split at hy
      · cases hy
        exact good_data (by omega) rfl
      · cases hy
theorem cw_reach {b : Int} {l : List Event} (he : ∀ e ∈ l, OkE e) : CW (1 + b % 4) (reachC b l) := by
  unfold reachC
  have hb : 1 ≤ 1 + b % 4 ∧ 1 + b % 4 ≤ 32 := by omega
  refine cw_play (N := 64) (by omega) okC_new he ?_
  have d := dw_fmt (g := 7) hb (by decide) (by decide)
  have nw : ∀ i : Int, NW (1 + b % 4) (newN i (1 + b % 4) 7) := fun i => nw_attach ⟨d, fun e => by cases e⟩
  unfold newC
  rw [if_neg ?_]
  · exact ⟨nw 0, nw 1⟩
  · unfold fmtV
    rw [if_pos ⟨hb.1, hb.2, by decide⟩]
    simp
theorem val_keep {n : Node} {r : Store × Int} {x : Nat} {P : Str → Prop} (h : Val r.1.disk x P) : Val (keepN n r).1.store.disk x P := by
  unfold keepN
  split <;> exact h
theorem val_commit {s : Store} {b : Super} {x : Nat} {P : Str → Prop} (hs : Sec s.disk) (h : Val s.disk x P) (hx : x ≠ 0) : Val (stCommit s b).1.disk x P := by
  have hw : Val (writeV s.disk 0 (sealV (sBytes b))).1 x P := val_write h (fun e => by omega)
  unfold stCommit
  split
  · exact h
  show Val (commitD s.disk b).1 x P
  unfold commitD
  split
  · split
    · exact hw
    · exact val_flush (sec_write hs) hw
  · exact h
theorem val_mark {s : Store} {i : Int} {x : Nat} {P : Str → Prop} (hs : Sec s.disk) (h : Val s.disk x P) (hx : x ≠ 1) : Val (stMark s i).1.disk x P := by
  have hn : ∀ m, Val (noteV s.disk m).1 x P ∧ Sec (noteV s.disk m).1 := by
    intro m
    unfold noteV
    split
    · exact ⟨val_write h (fun e => by omega), sec_write hs⟩
    · exact ⟨h, hs⟩
  unfold stMark
  split
  · unfold stSave
    split
    · exact h
    show Val (saveV s.disk _).1 x P
    unfold saveV
    split
    · exact (hn _).1
    · exact val_flush (hn _).2 (hn _).1
  · exact h
theorem val_put {s : Store} {i : Int} {data : Str} {x : Nat} {P : Str → Prop} (hs : Sec s.disk) (h : Val s.disk x P) (hp : i + 2 = (x : Int) → P data) : Val (stPut s i data).1.disk x P := by
  show Val (putV s.disk i data).1 x P
  have hw : Val (writeV s.disk (i + 2) data).1 x P := val_write h hp
  unfold putV
  split
  · split
    · split
      · exact hw
      · exact val_flush (sec_write hs) hw
    · exact h
  · exact h
theorem put_last {s : Store} {i : Int} {data : Str} {x : Nat} (hx : i + 2 = (x : Int)) (e : (stPut s i data).2 = 0) : Val (stPut s i data).1.disk x (fun y => y = data) := by
  obtain ⟨_, _, f, hd⟩ := put_okv e
  show Val (putV s.disk i data).1 x _
  rw [hd, hx]
  exact val_last
theorem mint_val {n : Node} {x : Nat} {P : Str → Prop} (hs : Sec n.store.disk) (h : Val n.store.disk x P) (hx : x ≠ 0) : Val (mintN n).1.store.disk x P := by
  unfold mintN
  split
  · exact h
  split
  · exact h
  rename_i g r _ _
  have := val_keep (n := { n with draws := r, mints := n.mints ++ [⟨g, n.store.sup.vector.current, n.id⟩] }) (val_commit (b := { n.store.sup with vector := mintVec n.store.sup.vector g }) hs h hx)
  dsimp only
  split <;> exact this
end Gm

set_option maxRecDepth 100000
namespace Gm
open Go
def zzz : Str := [122, 122, 122, 122, 122, 122, 122, 122]
def HasB (b : Int) (y : Str) : Prop := ∃ m : Nat, y = sealV (be m 4) ∧ m < 2 ^ 32 ∧ m.testBit b.toNat = true
def Fin2 (b : Int) (was : Str) (d : Disk) : Prop :=
  Val d (b.toNat + 2) (fun y => y = was) ∨ (Val d (b.toNat + 2) (fun y => y = was ∨ y = zzz) ∧ Val d 1 (HasB b))
theorem lay_fin {B : Int} {N : Nat} {n : Node} {b : Int} {was : Str} (o : OkN N n) (h : UpS B n.store) (hb : 0 ≤ b ∧ b < B) (hv : Val n.store.disk (b.toNat + 2) (fun y => y = was)) :
    Fin2 b was (layN n b zzz).1.store.disk ∧ ((layN n b zzz).2 = true → Val (layN n b zzz).1.store.disk (b.toNat + 2) (fun y => y = zzz)) := by
  have hB := h.dw.one
  have hm := sr_mark (i := b) h o.st.m
  have v1 := val_mark (i := b) h.dw.sec hv (by omega)
  have k1 := val_keep (n := n) v1
  unfold layN
  dsimp only
  by_cases e1 : (stMark n.store b).2 = 0
  case neg =>
    have ek : (keepN n (stMark n.store b)).2 = false := by unfold keepN; rw [if_neg e1]
    rw [if_neg (by rw [ek]; simp)]
    exact ⟨.inl k1, fun e => by cases e⟩
  have ek : keepN n (stMark n.store b) = (setSt n (stMark n.store b).1, true) := by unfold keepN; rw [if_pos e1]
  rw [ek, if_pos rfl]
  have u1 := hm.2 e1
  have hmask : (stMark n.store b).1.mask = setM n.store.mask b := by
    unfold stMark at e1 ⊢
    rw [if_pos (show 0 ≤ b ∧ b < n.store.sup.blocks by rw [h.bl]; exact hb)] at e1 ⊢
    unfold stSave at e1 ⊢
    split
    · rename_i e; exact e.symm
    · rename_i e
      rw [if_neg e] at e1
      exact if_pos e1
  have hbit : (stMark n.store b).1.mask.toNat.testBit b.toNat = true := by
    rw [hmask]
    unfold setM
    rw [if_pos (by omega), Int.toNat_natCast, Nat.testBit_or, Nat.testBit_two_pow_self, Bool.or_true]
  have m1 : Val (stMark n.store b).1.disk 1 (HasB b) := u1.mv.imp (fun y ⟨m', h1, h2, h3⟩ => ⟨m', h1, h2, h3 _ hbit⟩)
  have v2 : Val (stPut (stMark n.store b).1 b zzz).1.disk (b.toNat + 2) (fun y => y = was ∨ y = zzz) := val_put u1.dw.sec (v1.imp (fun y e => .inl e)) (fun _ => .inr rfl)
  have m2 : Val (stPut (stMark n.store b).1 b zzz).1.disk 1 (HasB b) := val_put u1.dw.sec m1 (fun e => by omega)
  refine ⟨.inr ⟨val_keep (n := setSt n (stMark n.store b).1) v2, val_keep (n := setSt n (stMark n.store b).1) m2⟩, fun e => ?_⟩
  have e2 : (stPut (stMark n.store b).1 b zzz).2 = 0 := by
    unfold keepN at e
    by_cases c : (stPut (setSt n (stMark n.store b).1).store b zzz).2 = 0
    · exact c
    · rw [if_neg c] at e; cases e
  exact val_keep (n := setSt n (stMark n.store b).1) (put_last (by omega) e2)
theorem wrote_fin {B : Int} {N : Nat} {n : Node} {id b : Int} {was : Str} (o : OkN N n) (h : UpS B n.store) (hb : 0 ≤ b ∧ b < B) (hv : Val n.store.disk (b.toNat + 2) (fun y => y = was)) :
    Fin2 b was (wroteN n id b zzz).1.store.disk ∧ ((wroteN n id b zzz).2 ≠ [] → Val (wroteN n id b zzz).1.store.disk (b.toNat + 2) (fun y => y = zzz)) := by
  have hl := lay_fin o h hb hv
  unfold wroteN
  split
  · exact ⟨hl.1, fun e => (e rfl).elim⟩
  rename_i e
  have e : (layN n b zzz).2 = true := by simpa using e
  split
  · exact ⟨hl.1, fun _ => hl.2 e⟩
  · exact ⟨hl.1, fun _ => hl.2 e⟩
theorem write_fin {B : Int} {N : Nat} {n : Node} {id b : Int} {was : Str} (h64 : 64 ≤ N) (o : OkN N n) (h : UpS B n.store) (hb : 0 ≤ b ∧ b < B) (hv : Val n.store.disk (b.toNat + 2) (fun y => y = was)) :
    Fin2 b was (writeN n id b zzz).1.store.disk ∧ (∀ x, (writeN n id b zzz).2 = [x] → x.kind = 2 → x.err = 0 → Val (writeN n id b zzz).1.store.disk (b.toNat + 2) (fun y => y = zzz)) := by
  have hm : Val (if n.state = 0 ∧ n.minted = false then mintN n else (n, 0)).1.store.disk (b.toNat + 2) (fun y => y = was) ∧
      ((if n.state = 0 ∧ n.minted = false then mintN n else (n, 0)).2 ≠ 6 → UpS B (if n.state = 0 ∧ n.minted = false then mintN n else (n, 0)).1.store) ∧
      OkN (N + 2) (if n.state = 0 ∧ n.minted = false then mintN n else (n, 0)).1 := by
    split
    · exact ⟨mint_val h.dw.sec hv (by omega), (mint_nw o h).2, okN_mint o h64⟩
    · exact ⟨hv, fun _ => h, o.up (by omega)⟩
  have ref : ∀ e : Int, e ≠ 0 → Fin2 b was (refuseN n id e).1.store.disk ∧ (∀ x, (refuseN n id e).2 = [x] → x.kind = 2 → x.err = 0 → Val (refuseN n id e).1.store.disk (b.toNat + 2) (fun y => y = zzz)) := by
    intro e he
    refine ⟨.inl hv, fun x hx _ h0 => ?_⟩
    cases hx
    exact (he h0).elim
  rw [write_of]
  generalize (if n.state = 0 ∧ n.minted = false then mintN n else (n, 0)) = q at hm ⊢
  split
  · exact ref 7 (by decide)
  split
  · exact ref 8 (by decide)
  split
  · exact ref 4 (by decide)
  split
  · exact ref 5 (by decide)
  split
  · exact ref 11 (by decide)
  split
  · exact ⟨.inl hm.1, fun x hx => by cases hx⟩
  rename_i e6
  split
  · rename_i e
    refine ⟨.inl hm.1, fun x hx _ h0 => ?_⟩
    cases hx
    exact (e h0).elim
  · have hw := wrote_fin (id := id) hm.2.2 (hm.2.1 e6) hb hm.1
    exact ⟨hw.1, fun x hx _ _ => hw.2 (by rw [hx]; simp)⟩
theorem write_range {n : Node} {id b : Int} {data : Str} (hb : ¬ (0 ≤ b ∧ b < n.store.sup.blocks)) {x : Outp} (h : (writeN n id b data).2 = [x]) : x.err ≠ 0 := by
  rw [write_of] at h
  have ref : ∀ e : Int, e ≠ 0 → (refuseN n id e).2 = [x] → x.err ≠ 0 := by
    intro e h1 h2
    cases h2
    exact h1
  split at h
  · exact ref 7 (by decide) h
  split at h
  · exact ref 8 (by decide) h
  rw [if_pos (by omega)] at h
  exact ref 4 (by decide) h
end Gm

set_option maxRecDepth 100000
namespace Gm
open Go
theorem fin_revive {b : Int} {was : Str} {d : Disk} (hs : Sec d) (h : Fin2 b was d) (keeps : List Bool) : Fin2 b was (reviveV (crashV d) keeps) := by
  rcases h with h | h
  · exact .inl (val_revive (d := crashV d) hs h keeps)
  · exact .inr ⟨val_revive (d := crashV d) hs h.1 keeps, val_revive (d := crashV d) hs h.2 keeps⟩
theorem seal_inj {a b : Nat} (ha : a < 2 ^ 32) (hb : b < 2 ^ 32) (h : sealV (be a 4) = sealV (be b 4)) : a = b := by
  have h1 : openV (sealV (be a 4)) = openV (sealV (be b 4)) := by rw [h]
  rw [openV_seal, openV_seal] at h1
  have h2 : unbe (be a 4) = unbe (be b 4) := by rw [(Prod.mk.inj h1).1]
  rw [unbe_be, unbe_be, Nat.mod_eq_of_lt (by simpa using ha), Nat.mod_eq_of_lt (by simpa using hb)] at h2
  exact h2
theorem read_in {B b : Int} {d : Disk} (h : DW B d) (hd : d.dead = false) (hc : ∀ w ∈ d.cache, w.sector = 1) (hb : 0 ≤ b ∧ b < B) :
    ∃ y, d.sure[b.toNat + 2]? = some y ∧ aReadV d b = (y, 0) := by
  have hl := h.len
  have hx : b.toNat + 2 < d.sure.length := by omega
  refine ⟨d.sure[b.toNat + 2], List.getElem?_eq_getElem hx, ?_⟩
  have g := (h.val (b.toNat + 2)).1 _ (List.getElem?_eq_getElem hx)
  have r : readV d (b + 2) = (d.sure[b.toNat + 2], 0) := by
    have := read_sec hd hx (fun w m => by rw [hc w m]; omega)
    rwa [show ((b.toNat + 2 : Nat) : Int) = b + 2 by omega] at this
  unfold aReadV
  rw [if_pos (show bd d b from ⟨by omega, by omega⟩), r, if_neg (by simp), if_pos (g.2.2 (by omega))]
theorem read_out {B b : Int} {d : Disk} (h : DW B d) (hb : ¬ (0 ≤ b ∧ b < B)) : aReadV d b = ([], 4) := by
  have hl := h.len
  unfold aReadV
  rw [if_neg (fun e => hb (by have e : 0 ≤ b ∧ b < (d.sure.length : Int) - 2 := e; omega))]
theorem found {B b : Int} {was : Str} {d : Disk} {keeps : List Bool} (h : DW B d) (hf : 0 ≤ b ∧ b < B → Fin2 b was d) (hw : ¬ (0 ≤ b ∧ b < B) → was = []) :
    ∃ s : Store, stAttach (reviveV (crashV d) keeps) = (s, 0) ∧ inK .u32 s.mask ∧ ∃ y, stRead s b = (y, if 0 ≤ b ∧ b < B then 0 else 4) ∧ (y = was ∨ (y = zzz ∧ hasM s.mask b = true)) ∧
      (Val d (b.toNat + 2) (fun z => z = zzz) → 0 ≤ b ∧ b < B → y = zzz) := by
  have hd : DW B (reviveV (crashV d) keeps) := dw_revive (dw_crash h) keeps
  have hB := h.one
  obtain ⟨s, m, e, hs, hm, h1⟩ := attach_dw hd rfl rfl
  refine ⟨_, e, inK_u32 (by simpa using hm), ?_⟩
  by_cases hb : 0 ≤ b ∧ b < B
  · rw [if_pos hb]
    obtain ⟨y, hy, hr⟩ := read_in hd rfl (fun w m => by cases m) hb
    refine ⟨y, hr, ?_, fun hv _ => (val_revive (d := crashV d) h.sec hv keeps).1 y hy⟩
    rcases fin_revive h.sec (hf hb) keeps with hv | ⟨hv, hm1⟩
    · exact .inl (hv.1 y hy)
    · rcases hv.1 y hy with e | e
      · exact .inl e
      · refine .inr ⟨e, ?_⟩
        obtain ⟨m', e1, h2, h3⟩ := hm1.1 _ h1
        have := seal_inj hm h2 e1
        subst this
        unfold hasM
        rw [Bool.and_eq_true]
        exact ⟨decide_eq_true (by omega), by rw [Int.toNat_natCast]; exact h3⟩
  · rw [if_neg hb]
    exact ⟨[], read_out hd hb, .inl (hw hb).symm, fun _ e => (hb e).elim⟩
theorem strbeq {a b : Str} (h : (!(a == b)) = true) : a ≠ b := by simpa using h
theorem said_ok {out : List Outp} {y : Str} (h : ∀ x, out = [x] → x.kind = 2 → x.err = 0 → y = zzz) {R W : Prop} (r : R) :
    bif (out.length : Int) == 1 then oget (getI out 0) fun v12 => (bif v12.kind == 2 then oget (getI out 0) fun v13 => (bif v13.err == 0 then (bif !(y == ([122, 122, 122, 122, 122, 122, 122, 122] : Str)) then W else R) else R) else R) else R := by
  refine cond_ok (fun h1 => ?_) (fun _ => r)
  have h1 : ∃ x, out = [x] := by
    match out, eq_t h1 with
    | [x], _ => exact ⟨x, rfl⟩
    | [], h => cases h
    | _ :: _ :: _, h => simp at h; omega
  obtain ⟨x, rfl⟩ := h1
  refine oget_ok (v := x) rfl (cond_ok (fun h2 => ?_) (fun _ => r))
  refine oget_ok (v := x) rfl (cond_ok (fun h3 => ?_) (fun _ => r))
  refine cond_f ?_ r
  rw [h x rfl (eq_t h2) (eq_t h3)]
  rfl
theorem WriteMarked_ok {c : Case} {two : PairI} {fuse : Int} (h0 : 0 ≤ c.blocks) (hw : ∀ e ∈ c.l, inK .u64 e.num) (hf : inK .u8 fuse) {K : Bool → Prop} (k : K true) : q178.F c two fuse K := by
  unfold q178.F q178.FV
  refine alive_ok (cond_f rfl (Great_ok (most := 60) (by decide) k (fun hl he => cond_f rfl ?_)))
  have hE : ∀ e ∈ c.l, OkE e := fun e h => okE_of (hw e h) (he e h)
  have on : OkN 2000 (nodeC (reachC c.blocks c.l) c.side) := ((okC_reach hE).up (by omega)).node _
  have nw : NW (1 + c.blocks % 4) (nodeC (reachC c.blocks c.l) c.side) := (cw_reach hE).node _
  refine Node_ok h0 (by omega) hE ?_
  generalize nodeC (reachC c.blocks c.l) c.side = n at on nw
  generalize 1 + c.blocks % 4 = B at nw
  refine cond_ok (fun _ => k) (fun hu => ?_)
  have up := nw.2 (not_f hu)
  refine ref15_Read_ok (N := 2000) (by decide) on.st (cond_f rfl ?_)
  have hf : 0 ≤ fuse ∧ fuse ≤ 255 := hf
  have hk : IntKind.i64.wrap (fuse.tmod 9) = fuse % 9 := by
    rw [Int.tmod_eq_emod_of_nonneg hf.1, wrap_i64 (by omega)]
  rw [hk]
  refine ref04_Arm_ok ?_
  have oa := okN_arm (k := fuse % 9) on (by omega) (by omega)
  have ua : UpS B (setSt n ⟨armV n.store.disk (fuse % 9), n.store.sup, n.store.mask⟩).store := ⟨dw_arm up.dw, up.dead, up.bl, up.one, up.mv⟩
  refine Write_ok (n := setSt n ⟨armV n.store.disk (fuse % 9), n.store.sup, n.store.mask⟩) (N := 2000) (by decide) (by decide) oa ?_
  have ow : OkN 2004 (writeN (setSt n ⟨armV n.store.disk (fuse % 9), n.store.sup, n.store.mask⟩) two.a two.b zzz).1 := okN_write oa (by decide)
  have dw := (nw_write (id := two.a) (b := two.b) (data := zzz) (by decide) oa ua).1
  have hin : 0 ≤ two.b ∧ two.b < B → Val n.store.disk (two.b.toNat + 2) (fun y => y = (stRead n.store two.b).1) ∧ (stRead n.store two.b).2 = 0 := by
    intro hb
    obtain ⟨y, hy, hr⟩ := read_in up.dw up.dead up.one hb
    have hr : stRead n.store two.b = (y, 0) := hr
    rw [hr]
    refine ⟨⟨fun z hz => ?_, fun w m e => ?_⟩, rfl⟩
    · rw [hy] at hz; cases hz; rfl
    · have := up.one w m
      omega
  have hout : ¬ (0 ≤ two.b ∧ two.b < B) → stRead n.store two.b = ([], 4) := fun hb => read_out up.dw hb
  have hfin : 0 ≤ two.b ∧ two.b < B → _ := fun hb => write_fin (id := two.a) (by decide) oa ua hb (hin hb).1
  have hrange : ¬ (0 ≤ two.b ∧ two.b < B) → ∀ x, (writeN (setSt n ⟨armV n.store.disk (fuse % 9), n.store.sup, n.store.mask⟩) two.a two.b zzz).2 = [x] → x.err ≠ 0 := by
    intro hb x hx
    exact write_range (by rw [show (setSt n ⟨armV n.store.disk (fuse % 9), n.store.sup, n.store.mask⟩).store.sup.blocks = B from up.bl]; exact hb) hx
  rw [show ([122, 122, 122, 122, 122, 122, 122, 122] : Str) = zzz from rfl]
  generalize writeN (setSt n ⟨armV n.store.disk (fuse % 9), n.store.sup, n.store.mask⟩) two.a two.b zzz = r at ow dw hfin hrange
  refine loop_ok (I := fun x : q178.L0 => ∃ j : Nat, j ≤ 2 ∧ x = ⟨(stRead n.store two.b).1, (stRead n.store two.b).2, r.2, (j : Int), two.a, two.b, r.1⟩)
    (m := fun x : q178.L0 => 2 - x.i.toNat) ?_ ⟨0, by omega, rfl⟩
  rintro _ ⟨j, hj, rfl⟩ rec hrec
  unfold q178.b0V
  dsimp only
  refine cond_ok (fun h1 => ?_) (fun _ => k)
  have hlt : (j : Int) < 2 := of_decide_eq_true h1
  have hnext : rec ⟨(stRead n.store two.b).1, (stRead n.store two.b).2, r.2, IntKind.i64.wrap ((j : Int) + 1), two.a, two.b, r.1⟩ := by
    rw [wrap_i64 (by omega)]
    exact hrec _ ⟨j + 1, by omega, rfl⟩ (by dsimp only; omega)
  refine ref04_Crash_ok ?_
  have od := ow.st.d
  have os := od.s
  have oc := od.c
  refine ref04_Revive_ok (d := crashV r.1.store.disk) (by show r.1.store.disk.sure.length ≤ _; omega) (by show r.1.store.disk.cache.length ≤ _; omega) od.r ?_
  generalize ([(j : Int) == 1, (j : Int) == 1, (j : Int) == 1, (j : Int) == 1, (j : Int) == 1, (j : Int) == 1] : List Bool) = keeps
  have ord : OkD 2004 (reviveV (crashV r.1.store.disk) keeps) := revive_ok (crash_ok od) keeps
  refine ref15_Attach_ok (N := 2004) (by decide) ord ?_
  obtain ⟨s, ea, hmask, y, er, hy, hz⟩ := found (keeps := keeps) (b := two.b) (was := (stRead n.store two.b).1) dw (fun hb => (hfin hb).1) (fun hb => by rw [hout hb])
  have os2 : OkS 2004 (stAttach (reviveV (crashV r.1.store.disk) keeps)).1 := okS_attach ord
  rw [ea] at os2
  rw [ea]
  refine cond_f rfl (ref15_Read_ok (N := 2004) (by decide) os2 ?_)
  rw [er]
  have he : (stRead n.store two.b).2 = (if 0 ≤ two.b ∧ two.b < B then 0 else 4) := by
    by_cases hb : 0 ≤ two.b ∧ two.b < B
    · rw [if_pos hb]; exact (hin hb).2
    · rw [if_neg hb, hout hb]
  refine cond_f (by rw [he]; simp) ?_
  have hsaid : ∀ x, r.2 = [x] → x.kind = 2 → x.err = 0 → y = zzz := by
    intro x hx hk he
    by_cases hb : 0 ≤ two.b ∧ two.b < B
    · exact hz ((hfin hb).2 x hx hk he) hb
    · exact (hrange hb x hx he).elim
  refine cond_ok (fun h2 => ?_) (fun _ => said_ok hsaid hnext)
  have hne := strbeq h2
  rcases hy with e | ⟨e, hh⟩
  · exact (hne e).elim
  · refine cond_f (by rw [e]; rfl) (has_ok hmask ?_)
    rw [hh]
    exact cond_f rfl (said_ok hsaid hnext)
end Gm
