/- A region in any order: the machine's side. -/
import Derived.Test.YtbhgalddlkebgaaDoorGmZ
namespace Gm
open Go

section
variable {E : Env} {w0 : World} {A : Ow} {tab : Tab} {cal : Callee} {nt : Nat} {st : St} {tr : List (Nat × AV × HS)} {opsA : Array Oper}

theorem lastSt_eq {L : List Oper} (hrun : Run E tab cal nt L L st tr) : lastSt L st tr = stAt L st tr L.length := by
  obtain ⟨_, h⟩ := run_at hrun L.length (Nat.le_refl _)
  rw [← h]
  simp [lastSt]

def lf (listed : Array Bool) (k : Nat) : Bool := listed.getD k false

theorem ready_some {listed : Array Bool} (hsz : listed.size = opsA.size) (hb : ∀ (j : Nat) o, opsA[j]? = some o → ∀ e ∈ o.after, Region.binds .any e = true → e.on < j)
    (hr : Region.ready .any opsA listed = []) : ∀ k, k < opsA.size → lf listed k = true := by
  intro k
  induction k using Nat.strongRecOn with
  | _ k ih =>
    intro hk
    cases hl : lf listed k with
    | true => rfl
    | false =>
      have ho : opsA[k]? = some opsA[k] := Array.getElem?_eq_getElem hk
      have : k ∈ Region.ready .any opsA listed := by
        rw [mem_ready]
        refine ⟨?_, _, ho, fun e he hbd => ih e.on (hb k _ ho e he hbd) (Nat.lt_trans (hb k _ ho e he hbd) hk)⟩
        unfold lf at hl
        rw [Array.getD_eq_getD_getElem?] at hl ⊢
        rw [Array.getElem?_eq_getElem (by omega)] at hl ⊢
        exact hl
      rw [hr] at this
      cases this

theorem draw_wp {S0 : Sit} {Q : Exit → Act → World → Prop} (hT : TabAt E.P w0 A tab) (hC : CalSound E.P w0 A cal) (hcl : CloneSound E) (hD : TabDet tab) (hCD : CalDet cal) (hrun : Run E tab cal nt opsA.toList opsA.toList st tr)
    (hok : drawOk opsA.toList (tr.map (·.1)) = true) (hQ : ∀ T a', Le S0 T → RS w0 A T nt (lastSt opsA.toList st tr) a' → Q .normal a' T.w) :
    ∀ (fuel : Nat) (listed : Array Bool) (S : Sit) (a : Act), Le S0 S → listed.size = opsA.size → listed.toList.count false ≤ fuel → Shut opsA.toList (lf listed) →
      RS w0 A S nt ⟨frOf opsA.toList st tr (lf listed) opsA.size, hsOf opsA.toList st tr (lf listed) opsA.size⟩ a → wpAny E.P .any opsA Q fuel listed a S.w := by
  have hb : ∀ (j : Nat) o, opsA[j]? = some o → ∀ e ∈ o.after, Region.binds .any e = true → e.on < j := fun j o ho => draw_back hok (by rw [Array.getElem?_toList]; exact ho)
  have hlen : opsA.toList.length = opsA.size := by simp
  have done : ∀ (listed : Array Bool) (S : Sit) (a : Act), Le S0 S → listed.size = opsA.size →
      RS w0 A S nt ⟨frOf opsA.toList st tr (lf listed) opsA.size, hsOf opsA.toList st tr (lf listed) opsA.size⟩ a → Region.ready .any opsA listed = [] → Q .normal a S.w := by
    intro listed S a hle hsz hrs hr
    have hall := ready_some hsz hb hr
    refine hQ S a hle ?_
    have e1 : frOf opsA.toList st tr (lf listed) opsA.size = (stAt opsA.toList st tr opsA.size).fr := by
      rw [← frOf_all opsA.size (by omega)]
      funext t
      exact frOf_agree t _ (fun k d hk _ _ => hall k hk)
    have e2 : hsOf opsA.toList st tr (lf listed) opsA.size = (stAt opsA.toList st tr opsA.size).hs := by
      rw [← hsOf_all hD hCD hrun opsA.size (by omega)]
      exact hsOf_agree _ (fun k hk _ => hall k hk)
    rw [lastSt_eq hrun, hlen]
    rw [e1, e2] at hrs
    exact hrs
  intro fuel
  induction fuel with
  | zero =>
    intro listed S a hle hsz hc hs hrs
    have hr : Region.ready .any opsA listed = [] := by
      cases h : Region.ready .any opsA listed with
      | nil => rfl
      | cons j r =>
        have hj : j ∈ Region.ready .any opsA listed := by rw [h]; simp
        obtain ⟨h1, o, ho, _⟩ := mem_ready.1 hj
        have hjl : j < opsA.size := (Array.getElem?_eq_some_iff.1 ho).1
        rw [Array.getD_eq_getD_getElem?, Array.getElem?_eq_getElem (by omega)] at h1
        have hm : false ∈ listed.toList := by
          have h1 : listed[j] = false := h1
          rw [← h1]
          exact Array.mem_toList_iff.2 (Array.getElem_mem _)
        have := List.count_pos_iff.2 hm
        omega
    exact ⟨hr, done listed S a hle hsz hrs hr⟩
  | succ fuel ih =>
    intro listed S a hle hsz hc hs hrs
    refine ⟨fun hr => done listed S a hle hsz hrs hr, ?_⟩
    intro i hi
    obtain ⟨h1, o, ho, hr⟩ := mem_ready.1 hi
    have hil : i < opsA.size := (Array.getElem?_eq_some_iff.1 ho).1
    have hoL : opsA.toList[i]? = some o := by rw [Array.getElem?_toList]; exact ho
    have h2 : listed[i]'(by omega) = false := by
      rw [Array.getD_eq_getD_getElem?, Array.getElem?_eq_getElem (by omega)] at h1
      exact h1
    have hun : lf listed i = false := by
      unfold lf
      rw [Array.getD_eq_getD_getElem?, Array.getElem?_eq_getElem (by omega)]
      exact h2
    have hset : lf (listed.setIfInBounds i true) = fun k => lf listed k || Nat.beq k i := by
      funext k
      unfold lf
      by_cases e : k = i
      · subst e
        rw [Nat.beq_refl, Bool.or_true]
        simp [Array.getD_eq_getD_getElem?, hsz, hil]
      · have : Nat.beq k i = false := by
          cases hb : Nat.beq k i with
          | false => rfl
          | true => exact absurd (Nat.eq_of_beq_eq_true hb) e
        rw [this, Bool.or_false, Array.getD_eq_getD_getElem?, Array.getD_eq_getD_getElem?, Array.getElem?_setIfInBounds_ne (fun h => e h.symm)]
    have hstep := draw_step hD hCD hrun hok hs hoL hr hun
    rw [hlen] at hstep
    refine act_wp hT hC hcl hrs ho hstep ?_
    intro T v hs' u h3 h4 h5 hK hd
    refine ih _ T _ (hle.trans h3) (by simp [hsz]) ?_ ?_ ?_
    · rw [Array.toList_setIfInBounds]
      rw [List.count_set (by simpa using (by omega : i < listed.size))]
      have : listed.toList[i]'(by simpa using (by omega : i < listed.size)) = false := by simpa using h2
      rw [this]
      have hpos : 0 < listed.toList.count false := List.count_pos_iff.2 (by rw [← this]; exact List.getElem_mem _)
      rw [if_pos (show (false == false) = true from rfl), if_neg (show ¬ (true == false) = true by decide)]
      omega
    · rw [hset]
      exact shut_set hs hoL hr
    · rw [hset]
      have h6 := hrs.put h3 h4 h5 hd
      have hK : (⟨frOf opsA.toList st tr (lf listed) opsA.size, hsOf opsA.toList st tr (lf listed) opsA.size⟩ : St).put o.dst v hs' = _ := hK
      rw [hK] at h6
      exact h6

theorem region_draw_wp {id : Nat} {S : Sit} {a : Act} {K : St → Prop} {Q : Exit → Act → World → Prop} (hm : E.P.follows .mixedOrders = true) (hT : TabAt E.P w0 A tab) (hC : CalSound E.P w0 A cal) (hcl : CloneSound E) (hD : TabDet tab) (hCD : CalDet cal)
    (rs : RS w0 A S nt st a) (h : adraw E tab cal nt opsA.toList opsA.toList [] st fun log st' => bif drawOk opsA.toList log then K st' else False)
    (hQ : ∀ T st' a', Le S T → RS w0 A T nt st' a' → K st' → Q .normal a' T.w) : (Code.region id opsA true).wp E.P Q a S.w := by
  obtain ⟨tr, hrun, h⟩ := adraw_run hD hCD opsA.toList opsA.toList [] st _ h
  rw [List.nil_append] at h
  cases hok : drawOk opsA.toList (tr.map (·.1)) with
  | false => rw [hok] at h; exact h.elim
  | true =>
    rw [hok] at h
    have hE := Ext.drawn S (S.w.drawn + 1)
    refine wp_region_any hm ?_
    refine draw_wp (S0 := S) hT hC hcl hD hCD hrun hok (fun T a' hle hrs => hQ T _ a' hle hrs h) opsA.size _ { S with w := { S.w with drawn := S.w.drawn + 1 } } a hE.le (by simp) ?_ ?_ ?_
    · simp
    · intro j o _ hl
      unfold lf at hl
      rw [Array.getD_eq_getD_getElem?, Array.getElem?_replicate] at hl
      split at hl <;> cases hl
    · have hl : ∀ k, lf (Array.replicate opsA.size false) k = false := by
        intro k
        unfold lf
        rw [Array.getD_eq_getD_getElem?, Array.getElem?_replicate]
        split <;> rfl
      have e1 : frOf opsA.toList st tr (lf (Array.replicate opsA.size false)) opsA.size = st.fr := by
        funext t
        exact frOf_stop t 0 opsA.size (by omega) (fun k d _ _ _ _ => hl k)
      have e2 : hsOf opsA.toList st tr (lf (Array.replicate opsA.size false)) opsA.size = st.hs := hsOf_stop 0 opsA.size (by omega) (fun k _ _ _ => hl k)
      rw [e1, e2]
      exact ⟨rs.h.ext hE, rs.size, rs.defers, fun t => (rs.fr t).mono hE.le⟩

end
end Gm
