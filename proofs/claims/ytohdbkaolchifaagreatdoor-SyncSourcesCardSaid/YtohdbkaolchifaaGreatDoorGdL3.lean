/- Clusters: what the document's functions answer. -/
import Derived.Test.YtohdbkaolchifaaGreatDoorGdW4
set_option maxRecDepth 100000
namespace Gm
open Go
def bI (i : Bool) : Int := if i = true then 1 else 0
theorem bI_not (i : Bool) : IntKind.i64.wrap (1 - bI i) = bI (!i) := by cases i <;> rfl
theorem lsend_ok {l : Link} {i : Bool} {ps : List Str} (hu : l.up = true) (h1 : (toC l i).length ≤ 100000) (h2 : ps.length ≤ 100000) {K : (Link × Int) → Prop} (k : K (setTo l i (toC l i ++ ps), 0)) : q84.F l (bI i) ps K := by
  unfold q84.F
  cases i
  · have h1 : l.to0.length ≤ 100000 := h1
    refine cond_f rfl (cond_f (by rw [hu]; rfl) (cond_t rfl (gd_ok (fit_ok (by omega)) (gd_ok (fit_ok (by omega)) (cond_t rfl k)))))
  · have h1 : l.to1.length ≤ 100000 := h1
    refine cond_t rfl (cond_f rfl (cond_f (by rw [hu]; rfl) (cond_f rfl (cond_t rfl (gd_ok (fit_ok (by omega)) (gd_ok (fit_ok (by omega)) (cond_f rfl (cond_t rfl k))))))))
theorem close_ok {l : Link} {K : Link → Prop} (k : K (closeL l)) : q85.F l K := k
def sndP (n0 n1 : Node) (l : Link) (w0 w1 : Bool) (out : List Outp) (K : CO → Prop) : Prop :=
  bif !n1.up then K (⟨n0, n1, l, w0, w1⟩, out) else q86.F n1 fun r => bif decide ((out.length + r.2.length) * 48 ≤ room) then (bif !r.1.up then K (⟨n0, r.1, l, w0, false⟩, out ++ r.2) else K (⟨n0, r.1, l, w0, w1⟩, out ++ r.2)) else False
def endP (c : Cluster) (out : List Outp) (K : CO → Prop) : Prop :=
  q85.F c.link fun r => bif !c.n0.up then sndP c.n0 c.n1 r c.w0 c.w1 out K else q86.F c.n0 fun q => bif decide ((out.length + q.2.length) * 48 ≤ room) then (bif !q.1.up then sndP q.1 c.n1 r false c.w1 (out ++ q.2) K else sndP q.1 c.n1 r c.w0 c.w1 (out ++ q.2) K) else False
def sndP0 (n0 n1 : Node) (l : Link) (w0 w1 : Bool) (K : CO → Prop) : Prop :=
  bif !n1.up then K (⟨n0, n1, l, w0, w1⟩, []) else q86.F n1 fun r => bif decide (r.2.length * 48 ≤ room) then (bif !r.1.up then K (⟨n0, r.1, l, w0, false⟩, r.2) else K (⟨n0, r.1, l, w0, w1⟩, r.2)) else False
def endP0 (c : Cluster) (K : CO → Prop) : Prop :=
  q85.F c.link fun r => bif !c.n0.up then sndP0 c.n0 c.n1 r c.w0 c.w1 K else q86.F c.n0 fun q => bif decide (q.2.length * 48 ≤ room) then (bif !q.1.up then sndP q.1 c.n1 r false c.w1 q.2 K else sndP q.1 c.n1 r c.w0 c.w1 q.2 K) else False
section
variable {N : Nat} (hN : N ≤ 6000) (h64 : 64 ≤ N)
include hN h64
theorem snd_ok {n0 n1 : Node} {l : Link} {w0 w1 : Bool} {out : List Outp} (o : OkN N n1) (ho : out.length ≤ 1000) {K : CO → Prop} (k : K (loseC (⟨n0, n1, l, w0, w1⟩, out) true)) : sndP n0 n1 l w0 w1 out K := by
  unfold loseC at k
  unfold sndP
  refine cond_ok (fun h => ?_) (fun h => ?_)
  · rw [if_pos (show (nodeC (⟨n0, n1, l, w0, w1⟩ : Cluster) true).up = false from not_t h)] at k; exact k
  rw [if_neg (show ¬ (nodeC (⟨n0, n1, l, w0, w1⟩ : Cluster) true).up = false from nf (not_f h))] at k
  dsimp only at k
  have hl := (okO_lose n1).1
  refine lose_ok (by omega) h64 o (gd_ok (out_ok (by omega)) (cond_ok (fun h => ?_) (fun h => ?_)))
  · rw [if_pos (show (loseN (nodeC (⟨n0, n1, l, w0, w1⟩ : Cluster) true)).1.up = false from not_t h)] at k; exact k
  · rw [if_neg (show ¬ (loseN (nodeC (⟨n0, n1, l, w0, w1⟩ : Cluster) true)).1.up = false from nf (not_f h))] at k; exact k
theorem end_ok {c : Cluster} {out : List Outp} (o : OkC N c) (ho : out.length ≤ 900) {K : CO → Prop} (k : K (endC c out)) : endP c out K := by
  obtain ⟨n0, n1, l, w0, w1⟩ := c
  have o0 : OkN N n0 := o.a
  have o1 : OkN N n1 := o.b
  unfold endC at k
  unfold endP
  refine close_ok (cond_ok (fun h => ?_) (fun h => ?_))
  · refine snd_ok hN h64 o1 (by omega) (use_eq k ?_)
    have : loseC (({ (⟨n0, n1, l, w0, w1⟩ : Cluster) with link := closeL l }), out) false = (⟨n0, n1, closeL l, w0, w1⟩, out) := by
      unfold loseC
      rw [if_pos (show (nodeC (⟨n0, n1, closeL l, w0, w1⟩ : Cluster) false).up = false from not_t h)]
    rw [this]
  have hl := (okO_lose n0).1
  refine lose_ok (by omega) h64 o0 (gd_ok (out_ok (by omega)) (cond_ok (fun h2 => ?_) (fun h2 => ?_)))
  · refine snd_ok hN h64 o1 (by rw [List.length_append]; omega) (use_eq k ?_)
    have : loseC (({ (⟨n0, n1, l, w0, w1⟩ : Cluster) with link := closeL l }), out) false = (⟨(loseN n0).1, n1, closeL l, false, w1⟩, out ++ (loseN n0).2) := by
      unfold loseC
      rw [if_neg (show ¬ (nodeC (⟨n0, n1, closeL l, w0, w1⟩ : Cluster) false).up = false from nf (not_f h))]
      dsimp only
      rw [if_pos (show (loseN (nodeC (⟨n0, n1, closeL l, w0, w1⟩ : Cluster) false)).1.up = false from not_t h2)]
      rfl
    rw [this]
  · refine snd_ok hN h64 o1 (by rw [List.length_append]; omega) (use_eq k ?_)
    have : loseC (({ (⟨n0, n1, l, w0, w1⟩ : Cluster) with link := closeL l }), out) false = (⟨(loseN n0).1, n1, closeL l, w0, w1⟩, out ++ (loseN n0).2) := by
      unfold loseC
      rw [if_neg (show ¬ (nodeC (⟨n0, n1, closeL l, w0, w1⟩ : Cluster) false).up = false from nf (not_f h))]
      dsimp only
      rw [if_neg (show ¬ (loseN (nodeC (⟨n0, n1, closeL l, w0, w1⟩ : Cluster) false)).1.up = false from nf (not_f h2))]
      rfl
    rw [this]
omit hN h64 in
theorem endP_nil {c : Cluster} {K : CO → Prop} (h : endP c [] K) : endP0 c K := by
  have e : ∀ n0 n1 l w0 w1, sndP n0 n1 l w0 w1 [] K = sndP0 n0 n1 l w0 w1 K := by
    intro n0 n1 l w0 w1
    unfold sndP sndP0
    simp only [List.length_nil, Nat.zero_add, List.nil_append]
  unfold endP at h
  simp only [List.length_nil, Nat.zero_add, List.nil_append, e] at h
  exact h
end
def fin (c1 : Cluster) (i : Bool) (up closes : Bool) (out : List Outp) : CO :=
  if (if up = false then setW c1 i false else c1).link.up = false ∨ (up = true ∧ closes = false) then (if up = false then setW c1 i false else c1, out)
  else endC (if closes = true then { (if up = false then setW c1 i false else c1) with w0 := false, w1 := false } else (if up = false then setW c1 i false else c1)) out
theorem after_of (c : Cluster) (i : Bool) (r : NO) : afterC c i r = fin (putC (setN c i r.1) i r.2) i r.1.up (r.2.any fun o => o.kind == 3) (r.2.filter fun o => !(o.kind == 1)) := rfl
section
variable {N : Nat} (hN : N ≤ 6000) (h64 : 64 ≤ N)
include hN h64
theorem kx_ok {x : q87.L0} {i : Bool} (hi : x.i = bI i) (o : OkC N x.m0) (ho : x.out.length ≤ 900) {K : CO → Prop} (k : K (fin x.m0 i x.m1.up x.closes x.out)) :
    q87.kx0V q84.F q85.F q86.F K x := by
  have ends : ∀ c : Cluster, OkC N c → K (endC c x.out) → endP c x.out K := fun c oc h => end_ok hN h64 oc ho h
  have ow : ∀ (a b : Bool), OkC N ⟨x.m0.n0, x.m0.n1, x.m0.link, a, b⟩ := fun a b => ⟨o.a, o.b, o.l⟩
  unfold q87.kx0V
  unfold fin at k
  rw [hi]
  cases hu : x.m1.up <;> cases hl : x.m0.link.up <;> cases hc : x.closes <;> cases i <;> rw [hu, hc] at k
  all_goals
    simp only [Bool.not_true, Bool.not_false, cond_true, cond_false, show (bI false == 0) = true from rfl, show (bI true == 0) = false from rfl, show (bI true == 1) = true from rfl]
  all_goals
    simp only [if_true, if_false, Bool.false_eq_true, Bool.true_eq_false, setW, hl, true_or, or_true, false_or, and_false, false_and, and_self] at k
  all_goals first
    | exact k
    | exact ends _ (ow _ _) k
    | exact ends _ o k
theorem after_ok {c : Cluster} {i : Bool} {n : Node} {l : List Outp} (o : OkC N c) (on : OkN N n) (hl : OkO 3 l) (hNl : N + 10 ≤ 6000) {K : CO → Prop} (k : K (afterC c i (n, l))) : q87.F c (bI i) n l K := by
  rw [after_of] at k
  have o1 := okC_set o (Nat.le_refl N) on i
  have put_up : ∀ (c : Cluster) (l : List Outp), (putC c i l).link.up = c.link.up := by
    intro c l
    unfold putC
    split
    · cases i <;> rfl
    · rfl
  have main : ∀ (m2 : Cluster) (kx : q87.L0 → Prop), (∀ x : q87.L0, x.i = bI i → OkC (N + 3) x.m0 → x.out.length ≤ 900 → K (fin x.m0 i x.m1.up x.closes x.out) → kx x) →
      ∃ m, loopB (q87.b0V q84.F q85.F q86.F) m kx (fun _ => False) ⟨bI i, l, [], false, 0, setN c i n, n, m2⟩ := by
    intro m2 kx hkx
    refine loop_ok (I := fun x : q87.L0 => ∃ j : Nat, j ≤ l.length ∧ x = ⟨bI i, l, (l.take j).filter fun o => !(o.kind == 1), (l.take j).any fun o => o.kind == 3, j, putC (setN c i n) i (l.take j), n, m2⟩)
      (m := fun x : q87.L0 => l.length - x.k.toNat) ?_ ⟨0, by omega, ?_⟩
    · rintro _ ⟨j, hj, rfl⟩ rec hrec
      unfold q87.b0V
      dsimp only
      refine cond_ok (fun h1 => ?_) (fun h1 => ?_)
      · have hlt := lt_of_dec h1
        have hw : IntKind.i64.wrap ((j : Int) + 1) = ((j + 1 : Nat) : Int) := wrap_lt hlt (by have := hl.1; unfold big; omega)
        have hm : l.length - ((j + 1 : Nat) : Int).toNat < l.length - ((j : Nat) : Int).toNat := by omega
        have et := take_succ hlt
        have hlen := hl.1
        have hf : ((l.take j).filter fun o => !(o.kind == 1)).length ≤ 3 := Nat.le_trans (List.length_filter_le _ _) (by rw [List.length_take]; omega)
        refine oget_ok (getI_ok hlt) (cond_ok (fun h2 => ?_) (fun h2 => ?_))
        · have hk : (l[j].kind == 1) = true := h2
          have h3 : (l[j].kind == 3) = false := by rw [eq_t hk]; rfl
          have eo : (l.take (j + 1)).filter (fun o => !(o.kind == 1)) = (l.take j).filter fun o => !(o.kind == 1) := by
            rw [et, List.filter_append, List.filter_cons_of_neg (by rw [hk]; simp), List.filter_nil, List.append_nil]
          have ec : ((l.take (j + 1)).any fun o => o.kind == 3) = (l.take j).any fun o => o.kind == 3 := by
            rw [et, List.any_append]
            simp only [List.any_cons, List.any_nil, h3, Bool.or_false]
          refine cond_ok (fun h4 => ?_) (fun h4 => ?_)
          · rw [put_up] at h4
            have hq : ∀ x : Link, toC (putC (setN c i n) i (l.take j)).link (!i) = toC (setN c i n).link (!i) ++ ((l.take j).filter fun o => o.kind == 1).map (·.data) := by
              intro _
              unfold putC
              rw [if_pos h4]
              cases i <;> rfl
            refine oget_ok (getI_ok hlt) ?_
            rw [bI_not]
            have hq := hq zL
            refine lsend_ok (by rw [put_up]; exact h4) ?_ (by simp) ?_
            · rw [hq, List.length_append, List.length_map]
              have h5 := (o1.l.to (!i)).1
              have h6 := List.length_filter_le (fun o : Outp => o.kind == 1) (l.take j)
              rw [List.length_take] at h6
              omega
            · rw [hw]
              refine hrec _ ⟨j + 1, hlt, ?_⟩ hm
              rw [eo, ec]
              congr 1
              rw [hq]
              have e1 : ((l.take (j + 1)).filter fun o => o.kind == 1) = ((l.take j).filter fun o => o.kind == 1) ++ [l[j]] := by
                rw [et, List.filter_append, List.filter_cons_of_pos (p := fun o : Outp => o.kind == 1) hk, List.filter_nil]
              unfold putC
              rw [if_pos h4, if_pos h4, e1, List.map_append, ← List.append_assoc]
              cases i <;> rfl
          · rw [put_up] at h4
            rw [hw]
            refine hrec _ ⟨j + 1, hlt, ?_⟩ hm
            rw [eo, ec]
            congr 1
            unfold putC
            rw [if_neg (nt h4), if_neg (nt h4)]
        · have hk : (l[j].kind == 1) = false := h2
          have eo : (l.take (j + 1)).filter (fun o => !(o.kind == 1)) = ((l.take j).filter fun o => !(o.kind == 1)) ++ [l[j]] := by
            rw [et, List.filter_append, List.filter_cons_of_pos (by rw [hk]; rfl), List.filter_nil]
          have ep : putC (setN c i n) i (l.take (j + 1)) = putC (setN c i n) i (l.take j) := by
            unfold putC
            have : ((l.take (j + 1)).filter fun o => o.kind == 1) = ((l.take j).filter fun o => o.kind == 1) := by
              rw [et, List.filter_append, List.filter_cons_of_neg (by rw [hk]; simp), List.filter_nil, List.append_nil]
            rw [this]
          have ec : ((l.take (j + 1)).any fun o => o.kind == 3) = (((l.take j).any fun o => o.kind == 3) || (l[j].kind == 3)) := by
            rw [et, List.any_append]
            simp only [List.any_cons, List.any_nil, Bool.or_false]
          refine cond_ok (fun h4 => ?_) (fun h4 => ?_)
          · refine oget_ok (getI_ok hlt) (gd_ok (out_ok (by rw [List.length_singleton]; omega)) ?_)
            rw [hw]
            refine hrec _ ⟨j + 1, hlt, ?_⟩ hm
            rw [eo, ep, ec, h4, Bool.true_or]
          · refine oget_ok (getI_ok hlt) (oget_ok (getI_ok hlt) (gd_ok (out_ok (by rw [List.length_singleton]; omega)) ?_))
            rw [hw]
            refine hrec _ ⟨j + 1, hlt, ?_⟩ hm
            rw [eo, ep, ec, h4, Bool.false_or]
      · have e := le_of_dec h1 hj
        subst e
        rw [List.take_length]
        refine hkx _ rfl ?_ ?_ k
        · exact okC_put o1 i hl
        · have := List.length_filter_le (fun o : Outp => !(o.kind == 1)) l
          have := hl.1
          dsimp only
          omega
    · have : putC (setN c i n) i (l.take 0) = setN c i n := by
        unfold putC
        split
        · cases i <;> simp [setTo, toC]
        · rfl
      simp only [this]
      rfl
  unfold q87.F q87.FV
  cases i
  · exact cond_t rfl (main _ _ (fun x h1 h2 h3 h4 => kx_ok (N := N + 3) (by omega) (by omega) h1 h2 h3 h4))
  · exact cond_f rfl (cond_t rfl (main _ _ (fun x h1 h2 h3 h4 => kx_ok (N := N + 3) (by omega) (by omega) h1 h2 h3 h4)))
end
end Gm

set_option maxRecDepth 100000
namespace Gm
open Go
theorem room0 : decide ((([] : List Outp).length + ([] : List Outp).length) * 48 ≤ room) = true := decide_eq_true (by decide)
set_option maxHeartbeats 1000000 in
theorem connect_ok {N : Nat} {c : Cluster} {i : Bool} (o : OkC N c) {K : CO → Prop} (k : K (connectC c i)) : q88.F c (bI i) K := by
  have oa := o.a
  have ob := o.b
  have u1 : inK .u64 (IntKind.u64.wrap (c.link.session + 1)) := (okC_open o).l.s
  unfold q88.F q88.FV
  rcases c with ⟨⟨i0, up0, st0, pr0, sa0, se0, pe0, pp0, rq0, as0, ai0, wa0, mi0, dr0, ms0⟩, ⟨i1, up1, st1, pr1, sa1, se1, pe1, pp1, rq1, as1, ai1, wa1, mi1, dr1, ms1⟩, ⟨lu, ls, t0, t1⟩, w0, w1⟩
  have b0 : OkN N (beginN ⟨i0, true, st0, pr0, sa0, se0, pe0, pp0, rq0, as0, ai0, wa0, mi0, dr0, ms0⟩ (IntKind.u64.wrap (ls + 1))).1 := okN_begin ⟨oa.st, oa.se, oa.pe, oa.rq, oa.dl, oa.dg, oa.ml, oa.wa⟩ u1
  have b1 : OkN N (beginN ⟨i1, true, st1, pr1, sa1, se1, pe1, pp1, rq1, as1, ai1, wa1, mi1, dr1, ms1⟩ (IntKind.u64.wrap (ls + 1))).1 := okN_begin ⟨ob.st, ob.se, ob.pe, ob.rq, ob.dl, ob.dg, ob.ml, ob.wa⟩ u1
  cases i
  · refine cond_t rfl ?_
    cases up0
    · cases up1 <;> exact k
    cases up1
    · cases w1 <;> exact k
    cases w1
    · exact k
    cases lu
    · refine cond_t rfl (cond_t rfl (cond_f rfl (cond_f rfl (own_ok ?_))))
      refine send_ok (by exact b0.se) (by exact own_w b0) ?_
      refine lsend_ok (i := true) rfl (by exact (show ([] : List Str).length ≤ 100000 from by decide)) (by simp) ?_
      refine cond_f rfl (own_ok ?_)
      refine send_ok (by exact b1.se) (by exact own_w b1) ?_
      refine cond_t rfl (lsend_ok (i := false) rfl (by exact (show ([] : List Str).length ≤ 100000 from by decide)) (by simp) ?_)
      refine cond_f rfl (cond_t room0 ?_)
      exact k
    · exact k
  · refine cond_f rfl (cond_t rfl ?_)
    cases up1
    · cases up0 <;> exact k
    cases up0
    · cases w0 <;> exact k
    cases w0
    · exact k
    cases lu
    · refine cond_t rfl (cond_t rfl (cond_f rfl (cond_f rfl (own_ok ?_))))
      refine send_ok (by exact b0.se) (by exact own_w b0) ?_
      refine lsend_ok (i := true) rfl (by exact (show ([] : List Str).length ≤ 100000 from by decide)) (by simp) ?_
      refine cond_f rfl (own_ok ?_)
      refine send_ok (by exact b1.se) (by exact own_w b1) ?_
      refine cond_t rfl (lsend_ok (i := false) rfl (by exact (show ([] : List Str).length ≤ 100000 from by decide)) (by simp) ?_)
      refine cond_f rfl (cond_t room0 ?_)
      exact k
    · exact k
def ninP (i : Bool) (c : Cluster) (K : CO → Prop) : Prop :=
  bif ((toC c.link i).length : Int) == 0 then K (c, []) else oget (getI (toC c.link i) 0) fun v => bif decide (0 ≤ 1) && decide (1 ≤ ((toC c.link i).length : Int)) then
    (bif decide ((sub (toC c.link i) (Int.toNat 1) (toC c.link i).length).length * 16 ≤ room) then
      q122.F (nodeC c i) v fun r => q87.F { c with link := setTo c.link i (sub (toC c.link i) (Int.toNat 1) (toC c.link i).length) } (bI i) r.1 r.2 fun q => K (q.1, q.2) else False) else False
def offP (c : Cluster) (K : CO → Prop) : Prop := bif !c.link.up then K (c, []) else endP0 c K
def doP (i : Bool) (c : Cluster) (e : Event) (K : CO → Prop) (P9 : Prop) : Prop :=
  bif e.kind == 1 then (q65.F (nodeC c i) e.id fun r => q87.F c (bI i) r.1 r.2 fun q => K (q.1, q.2)) else
  bif e.kind == 2 then (q66.F (nodeC c i) e.id fun r => q87.F c (bI i) r.1 r.2 fun q => K (q.1, q.2)) else
  bif e.kind == 3 then (q67.F (nodeC c i) e.id fun r => q87.F c (bI i) r.1 r.2 fun q => K (q.1, q.2)) else
  bif e.kind == 4 then (q69.F (nodeC c i) e.id e.block fun r => q87.F c (bI i) r.1 r.2 fun q => K (q.1, q.2)) else
  bif e.kind == 5 then (q81.F (nodeC c i) e.id e.block e.data fun r => q87.F c (bI i) r.1 r.2 fun q => K (q.1, q.2)) else
  bif e.kind == 6 then (q88.F c (bI i) fun q => K (q.1, q.2)) else
  bif e.kind == 7 then (bif e.kind == 7 then offP (setW c i false) K else offP c K) else
  bif e.kind == 8 then (bif e.kind == 7 then offP (setW c i false) K else offP c K) else
  bif e.kind == 9 then P9 else
  bif e.kind == 10 then (bif !(nodeC c i).up then K (c, []) else q63.F (nodeC c i) fun r => q87.F c (bI i) r [] fun q => K (q.1, q.2)) else
  bif e.kind == 11 then (q44.F (nodeC c i) e.keeps fun r => q46.F r.1 e.id r.2 [] fun q => K (setN c i r.1, [q])) else
  bif e.kind == 12 then (bif (nodeC c i).up then (q123.F (nodeC c i).store.disk (IntKind.i64.wrap (minI e.num 1000)) fun r => q87.F c (bI i) (setSt (nodeC c i) ⟨r, (nodeC c i).store.sup, (nodeC c i).store.mask⟩) [] fun q => K (q.1, q.2)) else
    q87.F c (bI i) (nodeC c i) [] fun q => K (q.1, q.2)) else
  bif e.kind == 13 then (bif decide (((nodeC c i).draws.length : Int) < 1000) then (bif decide ((nodeC c i).draws.length * 8 ≤ room) then (bif decide (((nodeC c i).draws.length + ([e.num] : List Int).length) * 8 ≤ room) then
    K (setN c i { nodeC c i with draws := (nodeC c i).draws ++ [e.num] }, []) else False) else False) else K (c, [])) else
  bif e.kind == 14 then (q92.F e.data c.link.session fun r => bif r.2 == 0 then K (c, []) else q122.F (nodeC c i) e.data fun r => q87.F c (bI i) r.1 r.2 fun q => K (q.1, q.2)) else
  K (c, [])
theorem setN_same (c : Cluster) (i : Bool) : setN c i (nodeC c i) = c := by cases i <;> rfl
theorem min_eq (x : Int) : minI x 1000 = min x 1000 := by
  unfold minI
  split <;> omega
section
variable {N : Nat} (hN : N ≤ 5900) (h64 : 64 ≤ N)
include hN h64
theorem off_ok {c : Cluster} (o : OkC N c) {K : CO → Prop} (k : K (if c.link.up = true then endC c [] else (c, []))) : offP c K := by
  unfold offP
  refine cond_ok (fun h => ?_) (fun h => ?_)
  · rw [if_neg (nt (not_t h))] at k; exact k
  · rw [if_pos (not_f h)] at k
    exact endP_nil (end_ok (by omega) h64 o (by decide) k)
theorem nin_ok {c : Cluster} {i : Bool} (o : OkC N c) {K : CO → Prop} (k : K (match toC c.link i with
     | [] => (c, [])
     | b :: r => afterC { c with link := setTo c.link i r } i (receiveN (nodeC c i) b))) : ninP i c K := by
  unfold ninP
  have hto := o.l.to i
  cases hq : toC c.link i with
  | nil =>
    rw [hq] at k
    exact cond_t rfl k
  | cons b r =>
    rw [hq] at k hto
    have e : sub (b :: r) (Int.toNat 1) (b :: r).length = r := by
      unfold sub
      rw [List.take_length]
      rfl
    have hr : r.length ≤ N := by have := hto.1; simp at this; omega
    have o1 : OkC N { c with link := setTo c.link i r } := ⟨o.a, o.b, okL_to o.l i hr (fun x hx => hto.2 x (List.mem_cons_of_mem _ hx))⟩
    refine cond_f (by rw [List.length_cons]; exact beq_eq_false_iff_ne.2 (by omega)) (oget_ok (v := b) rfl (gd_ok (by rw [List.length_cons]; simp; omega) (gd_ok (fit_ok (by rw [e]; omega)) ?_)))
    rw [e]
    have hb := hto.2 b (by simp)
    refine receive_ok (by omega) h64 (o.node i) (by omega) ?_
    exact after_ok (N := N + 4) (by omega) (by omega) (o1.up (by omega)) (okN_receive (o.node i) h64) (okO_receive _ _) (by omega) k
omit hN h64 in
theorem kd {k v : Int} {α : Type} {a b : α} {K : α → Prop} {P Q : Prop} (h1 : k = v → K a → P) (h2 : k ≠ v → K b → Q) (h : K (if k = v then a else b)) : bif k == v then P else Q := by
  by_cases e : k = v
  · rw [if_pos e] at h
    exact cond_t (beq_iff_eq.2 e) (h1 e h)
  · rw [if_neg e] at h
    exact cond_f (beq_eq_false_iff_ne.2 e) (h2 e h)
theorem do_at {c : Cluster} {e : Event} {i : Bool} (o : OkC N c) (oe : OkE e) {K : CO → Prop} {P9 : Prop} (p9 : ninP i c K → P9) (k : K (doAt c e i)) : doP i c e K P9 := by
  have on := o.node i
  have aft : ∀ {n : Node} {l : List Outp}, OkN (N + 4) n → OkO 3 l → K (afterC c i (n, l)) → q87.F c (bI i) n l fun q => K (q.1, q.2) :=
    fun h1 h2 h3 => after_ok (N := N + 4) (by omega) (by omega) (o.up (by omega)) h1 h2 (by omega) h3
  unfold doP
  revert k
  unfold doAt
  refine kd (fun _ k => promote_ok (by omega) h64 on (aft (okN_promote on h64) (okO_promote _ _) k)) fun _ => ?_
  refine kd (fun _ k => demote_ok (by omega) h64 on (aft (okN_demote on h64) (okO_demote _ _) k)) fun _ => ?_
  refine kd (fun _ k => discard_ok (by omega) h64 on (aft (okN_discard on h64) (okO_discard _ _) k)) fun _ => ?_
  refine kd (fun _ k => nread_ok (by omega) h64 on (aft (okN_read on) (okO_read _ _ _) k)) fun _ => ?_
  refine kd (fun _ k => write7_ok (by omega) h64 on (aft (okN_write on h64) (okO_write _ _ _ _) k)) fun _ => ?_
  refine kd (fun _ k => connect_ok o k) fun _ => ?_
  have he : ∀ (a b : CO), e.kind ≠ 7 → e.kind ≠ 8 → (if e.kind = 7 ∨ e.kind = 8 then a else b) = b := fun a b h1 h2 => if_neg (by simp [h1, h2])
  by_cases h7 : e.kind = 7
  · intro k
    rw [if_pos (Or.inl h7)] at k
    rw [if_pos h7] at k
    exact cond_t (beq_iff_eq.2 h7) (cond_t (beq_iff_eq.2 h7) (off_ok hN h64 (okC_want o i false) k))
  refine fun k => cond_f (beq_eq_false_iff_ne.2 h7) ?_
  by_cases h8 : e.kind = 8
  · rw [if_pos (Or.inr h8), if_neg h7] at k
    exact cond_t (beq_iff_eq.2 h8) (cond_f (beq_eq_false_iff_ne.2 h7) (off_ok hN h64 o k))
  rw [he _ _ h7 h8] at k
  refine cond_f (beq_eq_false_iff_ne.2 h8) ?_
  revert k
  refine kd (fun _ k => p9 (nin_ok hN h64 o k)) fun _ => ?_
  refine kd (fun _ k => ?_) fun _ => ?_
  · refine cond_ok (fun h => ?_) (fun h => ?_)
    · rw [if_neg (nt (not_t h))] at k; exact k
    · rw [if_pos (not_f h)] at k
      exact down_ok (aft ((okN_down on).up (by omega)) (okO_nil 3) k)
  refine kd (fun _ k => attach_ok (by omega) h64 on (reply_ok k)) fun _ => ?_
  refine kd (fun _ k => ?_) fun _ => ?_
  · have hw : IntKind.i64.wrap (minI e.num 1000) = min e.num 1000 := by
      have h0 : (0 : Int) ≤ e.num := oe.n.1
      rw [min_eq]
      exact wrap_i64 ⟨by omega, by omega⟩
    have h0 : (0 : Int) ≤ e.num := oe.n.1
    refine cond_ok (fun h => ?_) (fun h => ?_)
    · rw [if_pos h] at k
      rw [hw]
      exact ref04_Arm_ok (aft ((okN_arm on (by omega) (by omega)).up (by omega)) (okO_nil 3) k)
    · rw [if_neg (nt h)] at k
      exact aft (on.up (by omega)) (okO_nil 3) k
  refine kd (fun _ k => ?_) fun _ => ?_
  · have hd := on.dl
    refine cond_ok (fun h => ?_) (fun h => ?_)
    · have h := of_decide_eq_true h
      rw [if_pos (by omega)] at k
      exact gd_ok (fit_ok (by omega)) (gd_ok (fit_ok (by simp; omega)) k)
    · have h := of_decide_eq_false h
      rw [if_neg (by omega), setN_same] at k
      exact k
  refine kd (fun _ k => ?_) fun _ => ?_
  · have hd := oe.d
    refine ref13_Read_ok (by omega) (cond_ok (fun h => ?_) (fun h => ?_))
    · rw [if_pos (eq_t h)] at k; exact k
    · rw [if_neg (eq_f h)] at k
      exact receive_ok (by omega) h64 on (by omega) (aft (okN_receive on h64) (okO_receive _ _) k)
  exact fun k => k
theorem Do_ok {c : Cluster} {e : Event} (o : OkC N c) (oe : OkE e) {K : CO → Prop} (k : K (doC c e)) : q124.F c e K := by
  unfold q124.F q124.FV
  revert k
  unfold doC
  refine kd (fun _ k => ?_) fun _ => kd (fun _ k => ?_) fun _ k => k
  · refine do_at hN h64 o oe ?_ k
    exact fun h => cond_t (by decide) h
  · refine do_at hN h64 o oe ?_ k
    exact fun h => cond_f (by decide) (cond_t (by decide) h)
end
end Gm

set_option maxRecDepth 100000
namespace Gm
open Go
theorem okO_end {c : Cluster} {out : List Outp} {a : Nat} (h : out.length ≤ a) : (endC c out).2.length ≤ a + 6 := by
  have h1 : ∀ (c : CO) (i : Bool), (loseC c i).2.length ≤ c.2.length + 3 := by
    intro c i
    unfold loseC
    split
    · omega
    · dsimp only
      have := (okO_lose (nodeC c.1 i)).1
      rw [List.length_append]
      omega
  have e1 := h1 ({ c with link := closeL c.link }, out) false
  have e2 := h1 (loseC ({ c with link := closeL c.link }, out) false) true
  unfold endC
  dsimp only at e1
  omega
theorem okO_after {c : Cluster} {i : Bool} {r : NO} (h : OkO 3 r.2) : (afterC c i r).2.length ≤ 9 := by
  have := List.length_filter_le (fun o : Outp => !(o.kind == 1)) r.2
  have h3 := h.1
  unfold afterC
  dsimp only
  generalize (if r.1.up = false then setW (putC (setN c i r.1) i r.2) i false else putC (setN c i r.1) i r.2) = c2
  split
  · dsimp only; omega
  · exact okO_end (a := 3) (by omega)
theorem okO_do {c : Cluster} {e : Event} : (doC c e).2.length ≤ 18 := by
  have at_ : ∀ i, (doAt c e i).2.length ≤ 18 := by
    intro i
    unfold doAt
    refine ite_of (P := fun r : CO => r.2.length ≤ 18) (fun _ => ?_) (fun _ => ?_)
    · exact Nat.le_trans (okO_after (okO_promote _ _)) (by decide)
    refine ite_of (P := fun r : CO => r.2.length ≤ 18) (fun _ => ?_) (fun _ => ?_)
    · exact Nat.le_trans (okO_after (okO_demote _ _)) (by decide)
    refine ite_of (P := fun r : CO => r.2.length ≤ 18) (fun _ => ?_) (fun _ => ?_)
    · exact Nat.le_trans (okO_after (okO_discard _ _)) (by decide)
    refine ite_of (P := fun r : CO => r.2.length ≤ 18) (fun _ => ?_) (fun _ => ?_)
    · exact Nat.le_trans (okO_after (okO_read _ _ _)) (by decide)
    refine ite_of (P := fun r : CO => r.2.length ≤ 18) (fun _ => ?_) (fun _ => ?_)
    · exact Nat.le_trans (okO_after (okO_write _ _ _ _)) (by decide)
    refine ite_of (P := fun r : CO => r.2.length ≤ 18) (fun _ => ?_) (fun _ => ?_)
    · unfold connectC
      split
      · exact Nat.zero_le _
      dsimp only
      split
      · exact Nat.zero_le _
      · dsimp only
        rw [List.length_append]
        exact Nat.add_le_add (b := 9) (d := 9) (okO_after (okO_begin _ _)) (okO_after (okO_begin _ _))
    refine ite_of (P := fun r : CO => r.2.length ≤ 18) (fun _ => ?_) (fun _ => ?_)
    · generalize (if e.kind = 7 then setW c i false else c) = c1
      split
      · exact Nat.le_trans (okO_end (a := 0) (Nat.le_refl _)) (by decide)
      · exact Nat.zero_le _
    refine ite_of (P := fun r : CO => r.2.length ≤ 18) (fun _ => ?_) (fun _ => ?_)
    · split
      · exact Nat.zero_le _
      · exact Nat.le_trans (okO_after (okO_receive _ _)) (by decide)
    refine ite_of (P := fun r : CO => r.2.length ≤ 18) (fun _ => ?_) (fun _ => ?_)
    · split
      · exact Nat.le_trans (okO_after (okO_nil 3)) (by decide)
      · exact Nat.zero_le _
    refine ite_of (P := fun r : CO => r.2.length ≤ 18) (fun _ => ?_) (fun _ => ?_)
    · exact (by decide : 1 ≤ 18)
    refine ite_of (P := fun r : CO => r.2.length ≤ 18) (fun _ => ?_) (fun _ => ?_)
    · exact Nat.le_trans (okO_after (okO_nil 3)) (by decide)
    refine ite_of (P := fun r : CO => r.2.length ≤ 18) (fun _ => ?_) (fun _ => ?_)
    · exact Nat.zero_le _
    refine ite_of (P := fun r : CO => r.2.length ≤ 18) (fun _ => ?_) (fun _ => ?_)
    · split
      · exact Nat.zero_le _
      · exact Nat.le_trans (okO_after (okO_receive _ _)) (by decide)
    · exact Nat.zero_le _
  unfold doC
  split
  · exact at_ false
  split
  · exact at_ true
  · exact Nat.zero_le _
theorem play_app (c : Cluster) : ∀ (a b : List Event), playC c (a ++ b) = playC (playC c a) b
  | [], _ => rfl
  | e :: a, b => play_app (doC c e).1 a b
theorem Play_ok {N : Nat} {c : Cluster} {l : List Event} (o : OkC N c) (h64 : 64 ≤ N) (hl : N + 30 * l.length ≤ 5900) (he : ∀ e ∈ l, OkE e) {K : CO → Prop} (k : ∀ out, K (playC c l, out)) : q125.F c l K := by
  unfold q125.F q125.FV
  have hN : l.length ≤ 200 := by omega
  refine loop_ok (I := fun x : q125.L0 => ∃ j : Nat, j ≤ l.length ∧ x.l = l ∧ x.i = (j : Int) ∧ x.m0 = playC c (l.take j) ∧ x.out.length ≤ 18 * j)
    (m := fun x : q125.L0 => l.length - x.i.toNat) ?_ ⟨0, by omega, rfl, rfl, rfl, Nat.le_refl _⟩
  rintro ⟨l', out, i, m0, m1⟩ ⟨j, hj, h1, h2, h3, h4⟩ rec hrec
  dsimp only at h1 h2 h3 h4
  subst h1
  subst h2
  subst h3
  unfold q125.b0V
  dsimp only
  refine cond_ok (fun h => ?_) (fun h => ?_)
  · have hlt := lt_of_dec h
    have hw : IntKind.i64.wrap ((j : Int) + 1) = ((j + 1 : Nat) : Int) := wrap_lt hlt (by unfold big; omega)
    have hm : l'.length - ((j + 1 : Nat) : Int).toNat < l'.length - ((j : Nat) : Int).toNat := by omega
    have oj : OkC (N + 30 * j) (playC c (l'.take j)) := by
      have := okC_play (l := l'.take j) o h64 (fun e h => he e (List.mem_of_mem_take h))
      exact this.up (by rw [List.length_take]; omega)
    have ho := okO_do (c := playC c (l'.take j)) (e := l'[j])
    refine oget_ok (getI_ok hlt) (Do_ok (by omega) (by omega) oj (he _ (List.getElem_mem hlt)) ?_)
    refine gd_ok (out_ok (by omega)) ?_
    rw [hw]
    refine hrec _ ⟨j + 1, hlt, rfl, rfl, ?_, ?_⟩ hm
    · rw [take_succ hlt, play_app]
      rfl
    · dsimp only
      rw [List.length_append]
      omega
  · have e := le_of_dec h hj
    subst e
    rw [List.take_length]
    exact k _
theorem okN_raw {N : Nat} {i : Int} {d : Disk} (o : OkD N d) : OkN N ⟨i, false, ⟨d, zS, 0⟩, false, 0, 0, zeroH, false, zR, false, 0, 0, false, [], []⟩ :=
  ⟨⟨o, i64_0, wZV, inK_u32 (by decide)⟩, u64_0, wZH, Nat.zero_le _, Nat.zero_le _, fun g h => (by cases h), Nat.zero_le _, i64_0⟩
theorem fmt_okD {b : Int} {g : Nat} : OkD 64 (fmtV b g).1 := by
  unfold fmtV
  split
  · rename_i h
    refine bare_okD ?_ ?_
    · unfold fmtS
      simp only [List.length_cons, List.length_replicate]
      omega
    · intro x hx
      unfold fmtS at hx
      rcases List.mem_cons.1 hx with rfl | hx
      · rw [sealV_length, sB_length]; decide
      rcases List.mem_cons.1 hx with rfl | hx
      · rw [sealV_length, be_length]; decide
      · rw [(List.mem_replicate.1 hx).2]; decide
  · exact bare_okD (s := []) (by decide) (fun x h => by cases h)
theorem New_ok {b : Int} {g : Nat} (hg : g < 18446744073709551616) {K : (Cluster × Int) → Prop} (k : K (newC b g)) : q45.F b g K := by
  unfold q45.F q45.FV
  unfold newC at k
  by_cases h : (fmtV b g).2 ≠ 0
  · rw [if_pos h] at k
    refine ⟨1, round1 ?_⟩
    refine cond_t rfl (ref09_Format_ok hg (cond_t (by simpa using h) k))
  · rw [if_neg h] at k
    have h : ((fmtV b g).2 != 0) = false := by simpa using h
    refine ⟨3, round1 ?_⟩
    refine cond_t rfl (ref09_Format_ok hg (cond_f h ?_))
    refine attach_ok (N := 64) (by omega) (by omega) (okN_raw fmt_okD) ?_
    refine cond_t rfl (round1 ?_)
    refine cond_t rfl (ref09_Format_ok hg (cond_f h ?_))
    refine attach_ok (N := 64) (by omega) (by omega) (okN_raw fmt_okD) ?_
    refine cond_f rfl (cond_t rfl (round1 ?_))
    refine cond_f rfl ?_
    exact k
theorem okC_new {b : Int} {g : Nat} : OkC 64 (newC b g).1 := by
  have hz : OkN 64 zN := okN_raw (d := noD) (bare_okD (s := []) (by decide) (fun x h => by cases h))
  have hl : OkL 64 zL := ⟨u64_0, Nat.zero_le _, Nat.zero_le _, fun x h => (by cases h), fun x h => (by cases h)⟩
  unfold newC
  split
  · exact ⟨hz, hz, hl⟩
  · exact ⟨okN_attach (okN_raw fmt_okD), okN_attach (okN_raw fmt_okD), hl⟩
theorem okC_reach {b : Int} {l : List Event} (he : ∀ e ∈ l, OkE e) : OkC (64 + 30 * l.length) (reachC b l) := okC_play okC_new (by omega) he
theorem Reach_ok {b : Int} {l : List Event} (h0 : 0 ≤ b) (hl : l.length ≤ 100) (he : ∀ e ∈ l, OkE e) {K : Cluster → Prop} (k : K (reachC b l)) : q126.F b l K := by
  unfold q126.F q126.FV
  have e : IntKind.i64.wrap (1 + IntKind.i64.wrap (b.tmod 4)) = 1 + b % 4 := by
    rw [Int.tmod_eq_emod_of_nonneg h0, wrap_i64 (x := b % 4) (by omega), wrap_i64 (by omega)]
  refine cond_f rfl ?_
  show q45.F _ 7 _
  rw [e]
  refine New_ok (g := 7) (by decide) ?_
  exact Play_ok okC_new (by omega) (by omega) he (fun out => k)
end Gm

set_option maxRecDepth 100000
namespace Gm
open Go
theorem diskSame_ok {d : Disk} (h1 : d.sure.length ≤ 1000000) (h2 : d.cache.length ≤ 1000000) {K : Bool → Prop} (k : K true) : q175.F d d K := by
  unfold q175.F
  refine cond_f (by simp) (cond_f (by simp) (cond_f (by simp) (cond_f (by simp) ?_)))
  refine loop_ok (I := fun x : q175.L0 => ∃ j : Nat, j ≤ d.sure.length ∧ x = ⟨j, d, d⟩) (m := fun x : q175.L0 => d.sure.length - x.i.toNat) ?_ ⟨0, by omega, rfl⟩
  rintro _ ⟨j, hj, rfl⟩ rec hrec
  unfold q175.b0
  dsimp only
  refine cond_ok (fun h => ?_) (fun _ => ?_)
  · have hlt := lt_of_dec h
    rw [wrap_lt hlt (by unfold big; omega)]
    exact oget_ok (getI_ok hlt) (oget_ok (getI_ok hlt) (cond_f (by simp) (hrec _ ⟨j + 1, hlt, rfl⟩ (by dsimp only; omega))))
  · refine loop_ok (I := fun x : q175.L2 => ∃ j : Nat, j ≤ d.cache.length ∧ x = ⟨j, d, d⟩) (m := fun x : q175.L2 => d.cache.length - x.i.toNat) ?_ ⟨0, by omega, rfl⟩
    rintro _ ⟨j, hj, rfl⟩ rec hrec
    unfold q175.b2
    dsimp only
    refine cond_ok (fun h => ?_) (fun _ => k)
    have hlt := lt_of_dec h
    rw [wrap_lt hlt (by unfold big; omega)]
    exact oget_ok (getI_ok hlt) (oget_ok (getI_ok hlt) (cond_f (by simp) (hrec _ ⟨j + 1, hlt, rfl⟩ (by dsimp only; omega))))
theorem storeSame_ok {s : Store} (h1 : s.disk.sure.length ≤ 1000000) (h2 : s.disk.cache.length ≤ 1000000) {K : Bool → Prop} (k : K true) : q176.F s s K := by
  unfold q176.F q176.FV
  refine diskSame_ok h1 h2 (cond_t rfl (cond_t (by simp) ?_))
  rw [beq_self_eq_true]
  exact k
theorem drawsSame_ok {l : List Int} (h : l.length ≤ 1000000) {K : Bool → Prop} (k : K true) : q177.F l l K := by
  unfold q177.F
  refine cond_f (by simp) ?_
  refine loop_ok (I := fun x : q177.L0 => ∃ j : Nat, j ≤ l.length ∧ x = ⟨l, l, j⟩) (m := fun x : q177.L0 => l.length - x.i.toNat) ?_ ⟨0, by omega, rfl⟩
  rintro _ ⟨j, hj, rfl⟩ rec hrec
  unfold q177.b0
  dsimp only
  refine cond_ok (fun h => ?_) (fun _ => k)
  have hlt := lt_of_dec h
  rw [wrap_lt hlt (by unfold big; omega)]
  exact oget_ok (getI_ok hlt) (oget_ok (getI_ok hlt) (cond_f (by simp) (hrec _ ⟨j + 1, hlt, rfl⟩ (by dsimp only; omega))))
theorem mintsSame_ok {l : List Mint} (h : l.length ≤ 1000000) {K : Bool → Prop} (k : K true) : q178.F l l K := by
  unfold q178.F
  refine cond_f (by simp) ?_
  refine loop_ok (I := fun x : q178.L0 => ∃ j : Nat, j ≤ l.length ∧ x = ⟨l, l, j⟩) (m := fun x : q178.L0 => l.length - x.i.toNat) ?_ ⟨0, by omega, rfl⟩
  rintro _ ⟨j, hj, rfl⟩ rec hrec
  unfold q178.b0
  dsimp only
  refine cond_ok (fun h => ?_) (fun _ => k)
  have hlt := lt_of_dec h
  rw [wrap_lt hlt (by unfold big; omega)]
  exact oget_ok (getI_ok hlt) (oget_ok (getI_ok hlt) (cond_f (by simp) (hrec _ ⟨j + 1, hlt, rfl⟩ (by dsimp only; omega))))
theorem outsSame_ok {l : List Outp} (h : l.length ≤ 1000000) {K : Bool → Prop} (k : K true) : q184.F l l K := by
  unfold q184.F
  refine cond_f (by simp) ?_
  refine loop_ok (I := fun x : q184.L0 => ∃ j : Nat, j ≤ l.length ∧ x = ⟨l, l, j⟩) (m := fun x : q184.L0 => l.length - x.i.toNat) ?_ ⟨0, by omega, rfl⟩
  rintro _ ⟨j, hj, rfl⟩ rec hrec
  unfold q184.b0
  dsimp only
  refine cond_ok (fun h => ?_) (fun _ => k)
  have hlt := lt_of_dec h
  rw [wrap_lt hlt (by unfold big; omega)]
  exact oget_ok (getI_ok hlt) (oget_ok (getI_ok hlt) (cond_f (by simp) (hrec _ ⟨j + 1, hlt, rfl⟩ (by dsimp only; omega))))
theorem nodeSame_ok {N : Nat} {n : Node} (hN : N ≤ 1000000) (o : OkN N n) {K : Bool → Prop} (k : K true) : q179.F n n K := by
  unfold q179.F q179.FV
  have h1 := o.st.d.s
  have h2 := o.st.d.c
  have h3 := o.dl
  have h4 := o.ml
  refine storeSame_ok (by omega) (by omega) (cond_f rfl (drawsSame_ok (by omega) (cond_f rfl (mintsSame_ok (by omega) (cond_f rfl ?_)))))
  refine cond_t (by simp) (cond_t (by simp) (cond_t (by simp) (cond_t (by simp) (cond_t (by simp) (cond_t (by simp) (cond_t (by simp) (cond_t (by simp) (cond_t (by simp) (cond_t (by simp) (cond_t (by simp) ?_))))))))))
  rw [beq_self_eq_true]
  exact k
theorem ctz_bits {m : Nat} (h0 : m ≠ 0) (h : m < 2 ^ 32) : Lib.ctz 32 m < 32 ∧ m.testBit (Lib.ctz 32 m) = true ∧ ∀ j, j < Lib.ctz 32 m → m.testBit j = false := by
  have e : Lib.ctz 32 m = Lib.ctzFrom 32 m := by unfold Lib.ctz; rw [if_neg h0]
  obtain ⟨q, h1, h2⟩ := Lib.ctzFrom_spec 32 m (by omega) h
  rw [e]
  generalize Lib.ctzFrom 32 m = c at h1 h2 ⊢
  subst h1
  refine ⟨h2, ?_, fun j hj => ?_⟩
  · rw [Nat.mul_comm, Nat.testBit_mul_two_pow]
    simp [Nat.testBit_zero]
  · rw [Nat.mul_comm, Nat.testBit_mul_two_pow]
    simp only [show ¬ (c ≤ j) by omega, decide_false, Bool.false_and]
theorem Next_ok {m : Int} (hm : inK .u32 m) {K : (Int × Bool) → Prop} (k : K (nextM m)) : q163.F m 0 K := by
  obtain ⟨h1, h2⟩ := u32_toNat hm
  have e : ishl .u32 (ishr .u32 m (maxI2 0 0)) (maxI2 0 0) = m := by
    have hr : ishr .u32 m (maxI2 0 0) = m := by
      show m.fdiv (2 ^ 0) = m
      simp
    rw [hr]
    show IntKind.u32.wrap (m * 2 ^ 0) = m
    rw [wrap_u32]
    have : (0 : Int) ≤ m ∧ m ≤ 4294967295 := hm
    omega
  unfold q163.F q163.FV
  rw [e]
  refine cond_f (by decide) (cond_t (by decide) (cond_t (by decide) (cond_ok (fun h => ?_) (fun h => ?_))))
  · have h : m = 0 := eq_t h
    subst h
    exact use_eq k (next_none (fun j _ => by simp))
  · have h := eq_f h
    obtain ⟨c1, c2, c3⟩ := ctz_bits (m := m.toNat) (by omega) (by simpa using h1)
    unfold math_bits_TrailingZeros32.F
    have h0 : 0 ≤ m := hm.1
    refine cond_t (by simp; omega) ?_
    exact use_eq k (next_at c1 c2 c3)
end Gm

set_option maxRecDepth 100000
namespace Gm
open Go
theorem nodeDown_ok {n : Node} {K : Node → Prop} (k : K (downN n)) : q157.F n K := k
theorem eq0 {a : Int} (h : a = 0) : (a == 0) = true := beq_iff_eq.2 h
theorem ne0 {a : Int} (h : a ≠ 0) : (a == 0) = false := beq_eq_false_iff_ne.2 h
section
variable {N : Nat} {n : Node} (hN : N ≤ 7000) (h64 : 64 ≤ N) (o : OkN N n)
include hN h64 o
end
end Gm

set_option maxRecDepth 100000
namespace Gm
open Go
theorem out1 {o : Outp} : decide (([o] : List Outp).length * 48 ≤ room) = true := out_ok (by simp)
section
variable {N : Nat} {n : Node} (hN : N ≤ 6900) (h64 : 64 ≤ N) (o : OkN N n)
include hN h64 o
end
end Gm

set_option maxRecDepth 100000
namespace Gm
open Go
theorem Retire_ok {v : Vec} {K : Vec → Prop} (k : K (retire v)) : q164.F v K := by
  unfold q164.F
  unfold retire at k
  refine cond_ok (fun h => ?_) (fun h => ?_)
  · rw [if_neg (ne_t h)] at k; exact k
  · rw [if_pos (ne_f h)] at k; exact k
theorem diskRead_ok {N : Nat} {d : Disk} {i : Int} (hN : N ≤ 100000) (o : OkD N d) {K : (Str × Int) → Prop} (k : K (readV d i)) : disk_Read.F d i K := by
  have h1 := o.s
  have h2 := o.c
  unfold disk_Read.F
  refine cond_t ?_ k
  rw [Bool.and_eq_true]
  exact ⟨Nat.ble_eq_true_of_le (by omega), Nat.ble_eq_true_of_le (by omega)⟩
theorem areaRead_ok {N : Nat} {d : Disk} {i : Int} (hN : N ≤ 100000) (o : OkD N d) {K : (Str × Int) → Prop} (k : K (aReadV d i)) : q129.F d i K := by
  have hs := o.s
  unfold q129.F q129.FV
  unfold aReadV at k
  refine area_there_ok (by omega) (cond_ok (fun h => ?_) (fun h => ?_))
  · rw [if_neg (of_decide_eq_false (not_t h))] at k; exact k
  have hb := of_decide_eq_true (not_f h)
  rw [if_pos hb] at k
  rw [add2 (by omega) hb]
  refine diskRead_ok hN o (cond_ok (fun h => ?_) (fun h => ?_))
  · rw [if_pos (ne_t h)] at k; exact k
  rw [if_neg (fun e => e (ne_f h))] at k
  refine cond_ok (fun h => ?_) (fun h => ?_)
  · rw [if_neg (bne_nat (b := 8) h)] at k; exact k
  · rw [if_pos (bne_nat' (b := 8) h)] at k; exact k
section
variable {N : Nat} {n : Node} (hN : N ≤ 6900) (h64 : 64 ≤ N) (o : OkN N n)
include hN h64 o
omit h64 in
theorem GiveP_ok {b : Int} {K : NO → Prop} (k : K (giveN n b)) : q148.F n b K := by
  unfold q148.F q148.FV q130.F q130.FV
  refine areaRead_ok (by omega) o.st.d ?_
  refine packet_Encode_ok (by exact wZH) (by exact o.se) (gd_ok out1 ?_)
  exact k
theorem CopiedP_ok {b : Int} {K : NO → Prop} (k : K (copiedN n b)) : q171.F n b K := by
  unfold q171.F q171.FV
  unfold copiedN wipeN keepN at k
  refine cond_ok (fun h => ?_) (fun h => ?_)
  · rw [if_neg (fun e => nt (not_t h) e.1)] at k
    refine storeWipe_ok (by omega) h64 o.st (cond_ok (fun h => ?_) (fun h => ?_))
    · rw [if_neg (ne_t h)] at k; exact nodeDown_ok k
    · rw [if_pos (ne_f h)] at k; exact k
  refine cond_ok (fun h2 => ?_) (fun h2 => ?_)
  · rw [if_neg (fun e => ne_t h2 e.2)] at k
    refine storeWipe_ok (by omega) h64 o.st (cond_ok (fun h => ?_) (fun h => ?_))
    · rw [if_neg (ne_t h)] at k; exact nodeDown_ok k
    · rw [if_pos (ne_f h)] at k; exact k
  · rw [if_pos ⟨not_f h, ne_f h2⟩] at k; exact k
theorem EndedP_ok {K : NO → Prop} (k : K (endedN n)) : q172.F n K := by
  unfold q172.F q172.FV
  unfold endedN commitN keepN at k
  dsimp only at k
  refine Retire_ok (storeCommit_ok (b := { n.store.sup with vector := retire n.store.sup.vector, pri := n.primary }) (by omega) h64 o.st ⟨o.st.b, retire_vec o.st.v⟩ (cond_ok (fun h => ?_) (fun h => ?_)))
  · have h := ne_t h
    rw [if_neg h] at k
    exact nodeDown_ok (cond_f (ne0 h) k)
  · have h := ne_f h
    rw [if_pos h] at k
    refine cond_t (eq0 h) (packet_Encode_ok (by exact wZH) (by exact o.se) (gd_ok out1 ?_))
    exact k
omit hN h64 o in
theorem DoneP_ok {K : Node → Prop} (k : K (doneN n)) : q173.F n K := k
omit hN h64 o in
theorem next_wrap {m : Int} : IntKind.i64.wrap ((nextM m).1 + 1) = (nextM m).1 + 1 := by
  have := next_bound m
  exact wrap_i64 (by omega)
theorem SeekP_ok {K : NO → Prop} (k : K (seekN n)) : q174.F n K := by
  unfold q174.F q174.FV
  unfold seekN commitN keepN at k
  dsimp only at k
  refine cond_ok (fun h => ?_) (fun h => ?_)
  · rw [if_pos (.inl (not_t h))] at k; exact k
  refine cond_ok (fun h2 => ?_) (fun h2 => ?_)
  · rw [if_pos (.inr (ne_t h2))] at k; exact k
  rw [if_neg (fun e => e.elim (nf (not_f h)) (fun e => e (ne_f h2)))] at k
  refine Next_ok o.st.m (cond_ok (fun h3 => ?_) (fun h3 => ?_))
  · rw [if_pos h3] at k
    rw [next_wrap]
    refine packet_Encode_ok (by exact wZH) (by exact o.se) (gd_ok out1 ?_)
    exact k
  · rw [if_neg (nt h3)] at k
    refine Retire_ok (storeCommit_ok (b := ⟨n.store.sup.blocks, retire n.peer.vector, false, false, false⟩) (by omega) h64 o.st ⟨o.st.b, retire_vec o.pe.2.1⟩ (cond_ok (fun h => ?_) (fun h => ?_)))
    · have h := ne_t h
      rw [if_neg h] at k
      exact nodeDown_ok (cond_f (ne0 h) k)
    · have h := ne_f h
      rw [if_pos h] at k
      refine cond_t (eq0 h) (packet_Encode_ok (by exact wZH) (by exact o.se) (gd_ok out1 ?_))
      exact k
theorem GotP_ok {b : Int} (hb : 0 ≤ b ∧ b < 9223372036854775807) {data : Str} {K : NO → Prop} (k : K (gotN n b data)) : q170.F n b data K := by
  unfold q170.F q170.FV
  rw [wrap_i64 (by omega)]
  unfold gotN at k
  refine cond_ok (fun h => ?_) (fun h => ?_)
  · rw [if_pos (ne_t h)] at k; exact k
  rw [if_neg (fun e => e (ne_f h))] at k
  dsimp only at k
  have op := okS_put (i := b) (data := data) o.st h64
  refine storePut_ok (by omega) h64 o.st (cond_ok (fun h1 => ?_) (fun h1 => ?_))
  · have h1 := ne_t h1
    have e : keepN n (stPut n.store b data) = (downN (setSt n (stPut n.store b data).1), false) := by unfold keepN; rw [if_neg h1]
    rw [e, if_pos rfl] at k
    exact nodeDown_ok (cond_t (by rw [ne0 h1]; rfl) k)
  have h1 := ne_f h1
  have e : keepN n (stPut n.store b data) = (setSt n (stPut n.store b data).1, true) := by unfold keepN; rw [if_pos h1]
  rw [e, if_neg (by simp)] at k
  refine cond_f (by rw [eq0 h1]; rfl) (storeWipe_ok (N := N + 1) (by omega) (by omega) op (cond_ok (fun h2 => ?_) (fun h2 => ?_)))
  · have h2 := ne_t h2
    have e : wipeN (setSt n (stPut n.store b data).1) b = (downN (setSt n (stWipe (stPut n.store b data).1 b).1), false) := by unfold wipeN keepN; exact if_neg h2
    rw [e, if_pos rfl] at k
    exact nodeDown_ok (cond_t (by rw [ne0 h2]; rfl) k)
  have h2 := ne_f h2
  have e : wipeN (setSt n (stPut n.store b data).1) b = (setSt n (stWipe (stPut n.store b data).1 b).1, true) := by unfold wipeN keepN; exact if_pos h2
  rw [e, if_neg (by simp)] at k
  have ow := okS_wipe (i := b) op (by omega)
  refine cond_f (by rw [eq0 h2]; rfl) (packet_Encode_ok (by exact wZH) (by exact o.se) (gd_ok out1 ?_))
  dsimp only at k
  unfold seekN commitN keepN setSt at k
  dsimp only at k
  refine cond_ok (fun h => ?_) (fun h => ?_)
  · rw [if_pos (.inl (not_t h))] at k; exact k
  rw [if_neg (fun e => e.elim (nf (not_f h)) (fun e => e rfl))] at k
  refine Next_ok ow.m (cond_ok (fun h3 => ?_) (fun h3 => ?_))
  · rw [if_pos h3] at k
    rw [next_wrap]
    refine packet_Encode_ok (by exact wZH) (by exact o.se) (gd_ok (out_ok (by simp)) ?_)
    exact k
  · rw [if_neg (nt h3)] at k
    refine Retire_ok (storeCommit_ok (N := N + 2) (b := ⟨(stWipe (stPut n.store b data).1 b).1.sup.blocks, retire n.peer.vector, false, false, false⟩) (by omega) (by omega) ow ⟨ow.b, retire_vec o.pe.2.1⟩ (cond_ok (fun h => ?_) (fun h => ?_)))
    · have h := ne_t h
      rw [if_neg h] at k
      exact nodeDown_ok (cond_f (ne0 h) k)
    · have h := ne_f h
      rw [if_pos h] at k
      refine cond_t (eq0 h) (packet_Encode_ok (by exact wZH) (by exact o.se) (gd_ok (out_ok (by simp)) ?_))
      exact k
end
end Gm

set_option maxRecDepth 100000
namespace Gm
open Go
theorem Great_ok {l : List Event} {most : Nat} (hm : most ≤ 1000) {K : Bool → Prop} (kt : K true) (kf : l.length ≤ most → (∀ e ∈ l, e.data.length ≤ 300 ∧ e.keeps.length ≤ 100) → K false) : q181.F l most K := by
  unfold q181.F
  refine cond_ok (fun h => kt) (fun h => ?_)
  have h := of_decide_eq_false h
  have hl : l.length ≤ most := by omega
  refine loop_ok (I := fun x : q181.L0 => ∃ j : Nat, j ≤ l.length ∧ x = ⟨l, j⟩ ∧ ∀ e ∈ l.take j, e.data.length ≤ 300 ∧ e.keeps.length ≤ 100)
    (m := fun x : q181.L0 => l.length - x.i.toNat) ?_ ⟨0, by omega, rfl, fun e h => (by cases h)⟩
  rintro _ ⟨j, hj, rfl, he⟩ rec hrec
  unfold q181.b0
  dsimp only
  refine cond_ok (fun h1 => ?_) (fun h1 => ?_)
  · have hlt := lt_of_dec h1
    have hw : IntKind.i64.wrap ((j : Int) + 1) = ((j + 1 : Nat) : Int) := wrap_lt hlt (by unfold big; omega)
    refine oget_ok (getI_ok hlt) (cond_ok (fun h2 => kt) (fun h2 => ?_))
    refine oget_ok (getI_ok hlt) (cond_ok (fun h3 => kt) (fun h3 => ?_))
    have h2 := of_decide_eq_false h2
    have h3 := of_decide_eq_false h3
    rw [hw]
    refine hrec _ ⟨j + 1, hlt, rfl, fun e hm => ?_⟩ (by dsimp only; omega)
    rw [take_succ hlt] at hm
    rcases List.mem_append.1 hm with hm | hm
    · exact he e hm
    · rw [List.mem_singleton.1 hm]
      omega
  · have e := le_of_dec h1 hj
    subst e
    rw [List.take_length] at he
    exact kf hl he
def d8 : Str := [97, 98, 99, 100, 101, 102, 103, 104]
theorem okE_lit {k i a b n : Int} (h : inK .u64 n) : OkE ⟨k, i, a, b, [], n, []⟩ := ⟨h, Nat.zero_le _, Nat.zero_le _⟩
def zO : Outp := ⟨0, 0, 0, 0, []⟩
def h0 (l : List Outp) : Outp := (getI l 0).getD zO
theorem first_ok {K : Int → Prop} (k : K 7) : q9.F K := k
end Gm

set_option maxRecDepth 100000
namespace Gm
open Go
theorem inK_pos {x : Int} (h : inK .u8 x) : 0 ≤ x := h.1
theorem okE_of {e : Event} (hn : inK .u64 e.num) (h : e.data.length ≤ 300 ∧ e.keeps.length ≤ 100) : OkE e := ⟨hn, h.1, h.2⟩
end Gm

set_option maxRecDepth 100000
namespace Gm
open Go
theorem Side18_ok {c : Case} {K : Int → Prop} (k : K (bI c.side)) : q182.F c K := by
  unfold q182.F
  cases h : c.side <;> rw [h] at k
  · exact k
  · exact k
theorem Node18_ok {c : Case} (h0 : 0 ≤ c.blocks) (hl : c.l.length ≤ 100) (he : ∀ e ∈ c.l, OkE e) {K : Node → Prop} (k : K (nodeC (reachC c.blocks c.l) c.side)) : q183.F c K := by
  unfold q183.F q183.FV
  refine Reach_ok h0 hl he (Side18_ok ?_)
  cases h : c.side <;> rw [h] at k
  · exact cond_t rfl k
  · exact cond_f rfl (cond_t rfl k)
def evS : List Event := [⟨1, 0, 0, 0, [], 0, []⟩, ⟨13, 0, 0, 0, [], 9, []⟩, ⟨5, 0, 1, 1, d8, 0, []⟩, ⟨6, 0, 0, 0, [], 0, []⟩, ⟨6, 1, 0, 0, [], 0, []⟩, ⟨9, 0, 0, 0, [], 0, []⟩, ⟨9, 1, 0, 0, [], 0, []⟩]
theorem evS_ok : ∀ e ∈ evS, OkE e := by
  intro e h
  simp only [evS, List.mem_cons, List.not_mem_nil, or_false] at h
  rcases h with rfl | rfl | rfl | rfl | rfl | rfl | rfl
  · exact okE_lit u64_0
  · exact okE_lit ⟨by decide, by decide⟩
  · exact ⟨u64_0, by decide, by decide⟩
  all_goals exact okE_lit u64_0
def z8 : Str := [122, 122, 122, 122, 122, 122, 122, 122]
def srcN : Node := (reachC 1 evS).n0
def tgtN : Node := (reachC 1 evS).n1
theorem oS : OkN 274 srcN := (okC_reach (b := 1) evS_ok).a
theorem oT : OkN 274 tgtN := (okC_reach (b := 1) evS_ok).b
theorem started_ok {K : Cluster → Prop} (k : K (reachC 1 evS)) : q127.F K := by
  unfold q127.F q127.FV
  exact Reach_ok (l := evS) (by decide) (by decide) evS_ok k
def gv : NO := giveN srcN 1
def gt1 : NO := gotN tgtN 1 d8
def gt0 : NO := gotN tgtN 0 z8
def cp1 : NO := copiedN srcN 1
def en1 : NO := endedN cp1.1
def sk1 : NO := seekN tgtN
theorem oCp : OkN 278 cp1.1 := okN_copied oS (by decide)
theorem gv_len : ((h0 gv.2).data).length ≤ 10000 := of_decide_eq_true (by kernel_rfl)
theorem alive18_ok {K : Bool → Prop} (k : K true) : q180.F K := by
  unfold q180.F q180.FV
  refine started_ok ?_
  refine cond_f (show (srcN.state != 3) = false by kernel_rfl) (cond_f (show (tgtN.state != 4) = false by kernel_rfl) ?_)
  refine GiveP_ok (N := 274) (by decide) oS ?_
  refine GotP_ok (N := 274) (by decide) (by decide) oT (by decide) ?_
  refine GotP_ok (N := 274) (by decide) (by decide) oT (by decide) ?_
  refine CopiedP_ok (N := 274) (by decide) (by decide) oS ?_
  refine EndedP_ok (N := 278) (by decide) (by decide) oCp ?_
  refine DoneP_ok ?_
  refine SeekP_ok (N := 274) (by decide) (by decide) oT ?_
  refine cond_f (show ((gv.2.length : Int) != 1) = false by kernel_rfl) ?_
  refine cond_f (show ((gt1.2.length : Int) != 2) = false by kernel_rfl) ?_
  refine cond_f (show (IntKind.i64.wrap ((IntKind.i64.wrap ((gt0.2.length : Int) + (cp1.2.length : Int))) + (sk1.2.length : Int)) != 0) = false by kernel_rfl) ?_
  refine cond_f (show ((en1.2.length : Int) != 1) = false by kernel_rfl) ?_
  refine oget_ok (show getI gv.2 0 = some (h0 gv.2) by kernel_rfl) ?_
  refine ref13_Decode_ok gv_len ?_
  refine cond_t (show ((decP (h0 gv.2).data).2 == 0) = true by kernel_rfl) ?_
  refine cond_t (show ((decP (h0 gv.2).data).1.kind == 6) = true by kernel_rfl) ?_
  refine cond_t (show ((decP (h0 gv.2).data).1.data == d8) = true by kernel_rfl) ?_
  refine cond_t (show (!gt1.1.store.sup.inc) = true by kernel_rfl) ?_
  refine first_ok (cond_t (show ((gt1.1.store.sup.vector.current == 9) && ((gt1.1.store.sup.vector.bitmap == 0) && (((gt1.1.store.sup.vector.old0 == 7) && ((gt1.1.store.sup.vector.old1 == 0) && true)) && true))) = true by kernel_rfl) ?_)
  refine cond_t (show (gt1.1.store.mask == 0) = true by kernel_rfl) ?_
  have es : gt0.1 = tgtN := by kernel_rfl
  show q179.F gt0.1 tgtN _
  rw [es]
  refine nodeSame_ok (N := 274) (by decide) oT (cond_t rfl ?_)
  refine cond_t (show (cp1.1.store.mask == 0) = true by kernel_rfl) ?_
  refine cond_t (show (en1.1.state == 2) = true by kernel_rfl) ?_
  refine cond_t (show ((en1.1.store.sup.vector.current == gt1.1.store.sup.vector.current) && ((en1.1.store.sup.vector.bitmap == gt1.1.store.sup.vector.bitmap) && (((en1.1.store.sup.vector.old0 == gt1.1.store.sup.vector.old0) && ((en1.1.store.sup.vector.old1 == gt1.1.store.sup.vector.old1) && true)) && true))) = true by kernel_rfl) ?_
  have e : ((doneN gt1.1).state == 2) = true := by kernel_rfl
  show K ((doneN gt1.1).state == 2)
  rw [e]
  exact k
section
variable {N : Nat} {n : Node} (hN : N ≤ 6000) (h64 : 64 ≤ N) (o : OkN N n)
include hN h64 o
theorem Give18_ok {b : Int} {K : NO → Prop} (k : K (giveN n b)) : q185.F n b K := by
  unfold q185.F q185.FV
  exact give_ok (by omega) h64 o k
theorem Copied18_ok {b : Int} {K : NO → Prop} (k : K (copiedN n b)) : q186.F n b K := by
  unfold q186.F q186.FV
  exact copied_ok (by omega) h64 o k
theorem Ended18_ok {K : NO → Prop} (k : K (endedN n)) : q187.F n K := by
  unfold q187.F q187.FV
  exact ended_ok (by omega) h64 o k
end
theorem okO_len {a : Nat} {l : List Outp} (h : OkO a l) (ha : a ≤ 1000) : l.length ≤ 1000000 := by have := h.1; omega
theorem SyncSources_ok {c : Case} {b : Int} (h0 : 0 ≤ c.blocks) (hw : ∀ e ∈ c.l, inK .u64 e.num) {K : Bool → Prop} (k : K true) : q188.F c b K := by
  unfold q188.F q188.FV
  refine alive18_ok (cond_f rfl (Great_ok (most := 60) (by decide) k (fun hl he => cond_f rfl ?_)))
  have hE : ∀ e ∈ c.l, OkE e := fun e h => okE_of (hw e h) (he e h)
  have on : OkN 2000 (nodeC (reachC c.blocks c.l) c.side) := ((okC_reach hE).up (by omega)).node _
  refine Node18_ok h0 (by omega) hE ?_
  generalize nodeC (reachC c.blocks c.l) c.side = n at on
  refine cond_ok (fun _ => k) (fun _ => cond_ok (fun _ => k) (fun _ => cond_ok (fun _ => k) (fun _ => ?_)))
  refine GiveP_ok (N := 2000) (by decide) on (Give18_ok (N := 2000) (by decide) (by decide) on ?_)
  refine CopiedP_ok (N := 2000) (by decide) (by decide) on (Copied18_ok (N := 2000) (by decide) (by decide) on ?_)
  refine EndedP_ok (N := 2000) (by decide) (by decide) on (Ended18_ok (N := 2000) (by decide) (by decide) on ?_)
  refine nodeSame_ok (N := 2004) (by decide) (okN_give on) (cond_t rfl (outsSame_ok (by exact (show (1 : Nat) ≤ 1000000 by decide)) (cond_t rfl ?_)))
  refine nodeSame_ok (N := 2004) (by decide) (okN_copied on (by decide)) (cond_t rfl (outsSame_ok (okO_len (okO_copied n b) (by decide)) (cond_t rfl ?_)))
  exact nodeSame_ok (N := 2004) (by decide) (okN_ended on (by decide)) (cond_t rfl (outsSame_ok (okO_len (okO_ended n) (by decide)) k))
end Gm
