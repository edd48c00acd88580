/- Operations that hang on their operands alone: one theorem for all. -/
import Derived.Test.YtfjhdboapcckpaaGreatDoorGmL
import Derived.Deep.AppendSrc
import Derived.Lib.ConvBytes
import Derived.Deep.Upon
namespace Gm
open Go
section
variable {E : Env} {S : Sit} {K : AV → Prop} {tab : Tab}
theorem field_ok {t : TypeId} {cs : List AV} {v : Value} {f : Nat} {fields : Array Field} {fd : Field} {r : AV} (hu : E.P.underlying t = some (.struct fields)) (hf : fields[f]? = some fd)
    (hp : partC E fd.type cs fd.offset = some r) (hv : Rv S (.agg cs) v) : Ans E.P S (Instr.field t v f) (fun x => x = r) := by
  obtain ⟨vs, rfl, c1, c2⟩ := hv.agg_inv
  obtain ⟨u, h1, h2⟩ := part_ok hp (by omega) c2
  exact Ans.here (v := u) (by simp [Instr.field, run_undT hu, hf, asAgg, h1]) h2 rfl
theorem fieldAddr_ok {s : TypeId} {a r : AV} {v : Value} {f : Nat} {fields : Array Field} {fd : Field} {n : Nat} (hu : E.P.underlying s = some (.struct fields)) (hf : fields[f]? = some fd)
    (hz : szT E fd.type = some (n + 1)) (hv : Rv S a v)
    (h : (∃ b o, a = .ptr b o ∧ r = .ptr b (o + fd.offset)) ∨ (∃ cs o, a = .fptr cs o ∧ r = .fptr cs (o + fd.offset)) ∨ (∃ b i o, a = .elt b i o ∧ r = .elt b i (o + fd.offset))) :
    Ans E.P S (Instr.fieldAt s v f) (fun x => x = r) := by
  have run : ∀ B o, (Instr.fieldAt s (.pointer (some (at_ B o))) f).run E.P S.w = Result.ok (.pointer (some (at_ B (o + fd.offset)))) S.w := by
    intro B o
    simp [Instr.fieldAt, run_undT hu, hf, Instr.sureAddr, fieldPlace, run_sizeT hz, add_at]
  rcases h with ⟨b, o, rfl, rfl⟩ | ⟨cs, o, rfl, rfl⟩ | ⟨b, i, o, rfl, rfl⟩
  · cases hv with
    | ptr _ _ B hb hB => exact Ans.here (run B o) (.ptr _ _ B hb hB) rfl
  · cases hv with
    | fptr _ _ B g val hF hc hr =>
      refine Ans.here (v := .pointer (some (at_ B (g + (o + fd.offset))))) ?_ (.fptr cs (o + fd.offset) B g val hF hc hr) rfl
      rw [run B (g + o), Nat.add_assoc]
  · cases hv with
    | elt _ _ _ B hb hi hB =>
      refine Ans.here (v := .pointer (some (at_ B (i * (S.G b).esz + (o + fd.offset))))) ?_ (.elt _ _ _ B hb hi hB) rfl
      rw [run, Nat.add_assoc]
theorem arr_index_ok {t e : TypeId} {n z m : Nat} {k : IntKind} {cs : List AV} {v : Value} {r : AV} (hu : E.P.underlying t = some (.array n e)) (hz : szT E e = some z) (hm : m < n)
    (hp : partC E e cs (m * z) = some r) (hv : Rv S (.agg cs) v) : Ans E.P S (Instr.index t v (.int k m)) (fun x => x = r) := by
  obtain ⟨vs, rfl, c1, c2⟩ := hv.agg_inv
  obtain ⟨u, h1, h2⟩ := part_ok hp (by omega) c2
  refine Ans.here (v := u) ?_ h2 rfl
  have h3 : (m : Int) < n := by omega
  simp [Instr.index, asIntOf, run_undT hu, run_sizeT hz, h1]
  omega
theorem str_index_ok {t : TypeId} {k : IntKind} {i : Int} {s : Str} {v : Value} {b : UInt8} (hu : E.P.underlying t = some .string) (h : getI s i = some b) (hv : Rv S (.str s) v) :
    Ans E.P S (Instr.index t v (.int k i)) (fun x => x = .int .u8 (b.toNat : Int)) := by
  obtain ⟨x, rfl, hx⟩ := hv.str_inv
  obtain ⟨h0, h1, h2⟩ := getI_some h
  refine Ans.here (v := .int .u8 (b.toNat : Int)) ?_ (.int _ _) rfl
  have h3 : x[i.toNat]? = some b := by
    have hs : x.size = s.length := by rw [← hx]; simp
    have hlt : i.toNat < x.size := by omega
    have e : x[i.toNat]? = some (x[i.toNat]'hlt) := by
      exact getElem?_pos x i.toNat hlt
    rw [e]
    congr 1
    subst hx
    have h4 : x.data[i.toNat]? = some b := by rw [← Array.getElem?_toList]; exact h2
    have h5 := (Array.getElem?_eq_some_iff.1 h4).2
    exact h5
  simp [Instr.index, asIntOf, run_undT hu, h0, h3]
theorem ORv.of {fr : Nat → AV} {ρ : Operand → Value} (hρ : ∀ x, Rv S (oval fr x) (ρ x)) (l : Option Operand) : ORv S (l.map (oval fr)) (l.map ρ) := by
  cases l with
  | none => exact .none
  | some x => exact .some _ _ (hρ x)
theorem optArg_map (fr : Nat → AV) (l : Option Operand) (r : List AV) : optArg l ((l.toList.map (oval fr)) ++ r) = (l.map (oval fr), r) := by
  cases l <;> rfl
theorem a0_pick (c a b : Operand) {dst : Option Nat} {type : TypeId} {pos : String} {after : Array Edge} {guard : Option (Nat × Bool)} {fr : Nat → AV} {ρ : Operand → Value} (hρ : ∀ x, Rv S (oval fr x) (ρ x))
    (h : a0 E tab ⟨dst, .pick c a b, type, pos, after, guard⟩ (valsOf ⟨dst, .pick c a b, type, pos, after, guard⟩ fr) K) : AnsN E.P S (execOp ρ ⟨dst, .pick c a b, type, pos, after, guard⟩) K := by
  have h : a0 E tab ⟨dst, .pick c a b, type, pos, after, guard⟩ [oval fr c, oval fr a, oval fr b] K := h
  have r := hρ c
  generalize oval fr c = vc at h r
  cases vc <;> first | exact h.elim | skip
  rename_i t
  have hc := r.bool_inv
  cases t with
  | true => exact .inl ⟨ρ a, _, S, by simp [execOp, hc, asBool], .refl S, hρ a, h⟩
  | false => exact .inl ⟨ρ b, _, S, by simp [execOp, hc, asBool], .refl S, hρ b, h⟩
theorem a0_build (t : TypeId) (parts : Array (Nat × Operand)) {dst : Option Nat} {type : TypeId} {pos : String} {after : Array Edge} {guard : Option (Nat × Bool)} {fr : Nat → AV} {ρ : Operand → Value} (hρ : ∀ x, Rv S (oval fr x) (ρ x))
    (h : a0 E tab ⟨dst, .build t parts, type, pos, after, guard⟩ (valsOf ⟨dst, .build t parts, type, pos, after, guard⟩ fr) K) : AnsN E.P S (execOp ρ ⟨dst, .build t parts, type, pos, after, guard⟩) K := by
  have h : (match buildC E t ((parts.toList.map (·.1)).zip ((parts.toList.map (·.2)).map (oval fr))) with | some v => K v | none => False) := by
    have := h
    simp only [a0, valsOf, Op.operands] at this
    exact this
  split at h
  · rename_i a ha
    have e : ((parts.toList.map (·.1)).zip ((parts.toList.map (·.2)).map (oval fr))) = parts.toList.map fun p => (p.1, oval fr p.2) := by
      rw [List.map_map, List.zip_map']; rfl
    rw [e] at ha
    obtain ⟨v, h1, h2⟩ := build_ok (qs := parts.toList.map fun p => (p.1, ρ p.2)) ha (by simp) (by
      intro i p q hp hq
      simp at hp hq
      obtain ⟨x, y, h1, rfl⟩ := hp
      obtain ⟨x', y', h2, rfl⟩ := hq
      rw [h1] at h2
      cases h2
      exact ⟨rfl, hρ _⟩)
    refine AnsN.of_ans (s := Instr.build t (parts.map fun (i, x) => (i, ρ x))) (Ans.here ?_ h2 h)
    have e2 : (parts.map fun (i, x) => (i, ρ x)) = (parts.toList.map fun p => (p.1, ρ p.2)).toArray := by
      apply Array.ext'
      simp
    rw [e2]
    exact h1 S.w
  · exact h.elim
theorem a0_buildSlice (t : TypeId) (n : Nat) (parts : Array (Nat × Operand)) {dst : Option Nat} {type : TypeId} {pos : String} {after : Array Edge} {guard : Option (Nat × Bool)} {fr : Nat → AV} {ρ : Operand → Value} (hρ : ∀ x, Rv S (oval fr x) (ρ x))
    (h : a0 E tab ⟨dst, .buildSlice t n parts, type, pos, after, guard⟩ (valsOf ⟨dst, .buildSlice t n parts, type, pos, after, guard⟩ fr) K) : AnsN E.P S (execOp ρ ⟨dst, .buildSlice t n parts, type, pos, after, guard⟩) K := by
  have h : a0 E tab ⟨dst, .buildSlice t n parts, type, pos, after, guard⟩ ((parts.toList.map (·.2)).map (oval fr)) K := by
    have := h
    simpa [valsOf, Op.operands] using this
  have e : ((parts.toList.map (·.1)).zip ((parts.toList.map (·.2)).map (oval fr))) = parts.toList.map fun p => (p.1, oval fr p.2) := by
    rw [List.map_map, List.zip_map']; rfl
  simp only [a0, e] at h
  split at h
  · rename_i el hel
    split at h
    · rename_i z l hz hl
      split at h
      · rename_i zc hzc
        split at h
        · rename_i hb
          simp only [Bool.and_eq_true, Nat.beq_eq, Nat.ble_eq, List.all_eq_true] at hb
          obtain ⟨hb1, hb2, hb3⟩ := hb
          obtain ⟨hl1, hl2⟩ := litC_spec hl
          have hu : E.P.underlying t = some (.slice el) := by
            unfold elemT at hel
            split at hel
            · cases hel; assumption
            · cases hel
          have key := lit_ok (S := S) (n := n) (qs := parts.toList.map fun p => (p.1, ρ p.2)) hu hz hzc hb1 hb2 hb3 hl2 (by rw [← hl1]; simp) (by
            intro i p q hp hq
            rw [← hl1] at hp
            simp at hp hq
            obtain ⟨x, y, h1, rfl⟩ := hp
            obtain ⟨x', y', h2, rfl⟩ := hq
            rw [h1] at h2
            cases h2
            exact ⟨rfl, hρ _⟩)
          have e2 : (parts.map fun (i, x) => (i, ρ x)) = (parts.toList.map fun p => (p.1, ρ p.2)).toArray := by
            apply Array.ext'
            simp
          have e0 : execOp ρ ⟨dst, .buildSlice t n parts, type, pos, after, guard⟩ = (do pure (.value (← Instr.buildSlice t n (parts.toList.map fun p => (p.1, ρ p.2)).toArray)) : Sem Next) := by
            rw [← e2]; rfl
          have k2 : Ans E.P S (Instr.buildSlice t n (parts.toList.map fun p => (p.1, ρ p.2)).toArray) K := key.imp (by rintro a rfl; exact h)
          rw [e0]
          exact AnsN.of_ans k2
        · exact h.elim
      · exact h.elim
    · exact h.elim
  · exact h.elim
theorem a0_load (t : TypeId) (a : Operand) {dst : Option Nat} {type : TypeId} {pos : String} {after : Array Edge} {guard : Option (Nat × Bool)} {fr : Nat → AV} {ρ : Operand → Value} (hρ : ∀ x, Rv S (oval fr x) (ρ x))
    (h : a0 E tab ⟨dst, .load t a, type, pos, after, guard⟩ (valsOf ⟨dst, .load t a, type, pos, after, guard⟩ fr) K) : AnsN E.P S (execOp ρ ⟨dst, .load t a, type, pos, after, guard⟩) K := by
  have h : a0 E tab ⟨dst, .load t a, type, pos, after, guard⟩ [oval fr a] K := h
  have r := hρ a
  generalize oval fr a = va at h r
  cases va <;> first | exact h.elim | skip
  rename_i cs i
  simp only [a0] at h
  split at h
  · rename_i x hx
    refine AnsN.of_ans (s := Instr.loadAt t (ρ a)) ?_
    generalize ρ a = v at r
    cases r with
    | fptr _ _ B f val hF hc hr =>
      obtain ⟨v, h1, h2⟩ := load_ok val hx hc hr
      exact Ans.here (by simp [Instr.loadAt, Instr.sureAddr, h1]) h2 h
  · exact h.elim
theorem a0_nilCheck (x : Operand) {dst : Option Nat} {type : TypeId} {pos : String} {after : Array Edge} {guard : Option (Nat × Bool)} {fr : Nat → AV} {ρ : Operand → Value} (hρ : ∀ x, Rv S (oval fr x) (ρ x))
    (h : a0 E tab ⟨dst, .nilCheck x, type, pos, after, guard⟩ (valsOf ⟨dst, .nilCheck x, type, pos, after, guard⟩ fr) K) : AnsN E.P S (execOp ρ ⟨dst, .nilCheck x, type, pos, after, guard⟩) K := by
  have h : a0 E tab ⟨dst, .nilCheck x, type, pos, after, guard⟩ [oval fr x] K := h
  have r := hρ x
  simp only [a0] at h
  split at h
  · rename_i hn
    have key : ∀ v, Rv S (oval fr x) v → v = ρ x → AnsN E.P S (execOp ρ ⟨dst, .nilCheck x, type, pos, after, guard⟩) K := by
      intro v r' hv
      refine .inl ⟨v, _, S, ?_, .refl S, r', h⟩
      simp only [execOp, ← hv]
      generalize oval fr x = a at hn r'
      cases r' <;> first | rfl | (simp [AV.nonNil] at hn)
    exact key _ r rfl
  · exact h.elim
theorem nil_ok {op : BinOp} {t : TypeId} {x y : Operand} (h : anil E op t K) (hk : (isK x || isK y) = true) : Ans E.P S (do eqGuard op t x y .nilIface .nilIface; binOp op t .nilIface .nilIface) K := by
  have g : ∀ o : BinOp, (eqGuard o t x y .nilIface .nilIface).run E.P S.w = Result.ok () S.w := by
    intro o
    unfold eqGuard
    cases x <;> cases y <;> first | (simp [isK] at hk; done) | (cases o <;> rfl)
  have e1 : ∀ ms, E.P.underlying t = some (.interface ms) → (Op.equal t .nilIface .nilIface).run E.P S.w = Result.ok true S.w := by
    intro ms hu
    show (Op.equalIn Op.maxDepth t .nilIface .nilIface).run E.P S.w = _
    obtain ⟨m, hm⟩ : ∃ m, Op.maxDepth = m + 1 := ⟨Op.maxDepth - 1, by unfold Op.maxDepth; omega⟩
    rw [hm]
    simp only [Op.equalIn, Sem.run_bind, run_undT hu, Result.andThen_ok, Sem.run_pure]
  unfold anil at h
  split at h
  · rename_i ms hu
    refine Ans.here (v := .bool true) ?_ (.bool _) h
    simp [g, binOp, e1 ms hu]
  · rename_i ms hu
    refine Ans.here (v := .bool false) ?_ (.bool _) h
    simp [g, binOp, e1 ms hu]
  · exact h.elim
theorem a0_binOp (op : BinOp) (t : TypeId) (x y : Operand) (u : TypeId) {dst : Option Nat} {type : TypeId} {pos : String} {after : Array Edge} {guard : Option (Nat × Bool)} {fr : Nat → AV} {ρ : Operand → Value} (hρ : ∀ x, Rv S (oval fr x) (ρ x))
    (h : a0 E tab ⟨dst, .binOp op t x y u, type, pos, after, guard⟩ (valsOf ⟨dst, .binOp op t x y u, type, pos, after, guard⟩ fr) K) : AnsN E.P S (execOp ρ ⟨dst, .binOp op t x y u, type, pos, after, guard⟩) K := by
  have h : (bif nil2 (oval fr x) (oval fr y) && (isK x || isK y) then anil E op t K else abin E op t (oval fr x) (oval fr y) K) := h
  refine AnsN.of_ans (s := do eqGuard op t x y (ρ x) (ρ y); binOp op t (ρ x) (ρ y)) ?_
  cases hb : (nil2 (oval fr x) (oval fr y) && (isK x || isK y)) with
  | false => rw [hb] at h; exact bin_ok h (hρ x) (hρ y)
  | true =>
    rw [hb] at h
    rw [Bool.and_eq_true] at hb
    obtain ⟨hb1, hb2⟩ := hb
    have rx := hρ x
    have ry := hρ y
    obtain ⟨ex, ey⟩ : oval fr x = .nili ∧ oval fr y = .nili := by
      unfold nil2 at hb1
      split at hb1
      · rename_i e1 e2; exact ⟨e1, e2⟩
      · cases hb1
    rw [ex] at rx
    rw [ey] at ry
    have nv : ∀ v, Rv S .nili v → v = .nilIface := fun v r => by cases r; rfl
    have vx := nv _ rx
    have vy := nv _ ry
    rw [vx, vy]
    exact nil_ok h hb2
theorem a0_unOp (op : UnOp) (t : TypeId) (x : Operand) {dst : Option Nat} {type : TypeId} {pos : String} {after : Array Edge} {guard : Option (Nat × Bool)} {fr : Nat → AV} {ρ : Operand → Value} (hρ : ∀ x, Rv S (oval fr x) (ρ x))
    (h : a0 E tab ⟨dst, .unOp op t x, type, pos, after, guard⟩ (valsOf ⟨dst, .unOp op t x, type, pos, after, guard⟩ fr) K) : AnsN E.P S (execOp ρ ⟨dst, .unOp op t x, type, pos, after, guard⟩) K := by
  have h : (match aun op (oval fr x) with | some v => K v | none => False) := h
  split at h
  · rename_i v hv
    exact AnsN.of_ans (s := Op.unary op (ρ x)) ((un_ok hv (hρ x)).imp (by rintro a rfl; exact h))
  · exact h.elim
theorem a0_convert (s d : TypeId) (x : Operand) {dst : Option Nat} {type : TypeId} {pos : String} {after : Array Edge} {guard : Option (Nat × Bool)} {fr : Nat → AV} {ρ : Operand → Value} (hρ : ∀ x, Rv S (oval fr x) (ρ x))
    (h : a0 E tab ⟨dst, .convert s d x, type, pos, after, guard⟩ (valsOf ⟨dst, .convert s d x, type, pos, after, guard⟩ fr) K) : AnsN E.P S (execOp ρ ⟨dst, .convert s d x, type, pos, after, guard⟩) K := by
  have h : (match aconv E s d (oval fr x) with | some v => K v | none => False) := h
  split at h
  · rename_i v hv
    exact AnsN.of_ans (s := convert s d (ρ x)) ((conv_ok hv (hρ x)).imp (by rintro a rfl; exact h))
  · exact h.elim
theorem a0_makeInterface (t : TypeId) (x : Operand) {dst : Option Nat} {type : TypeId} {pos : String} {after : Array Edge} {guard : Option (Nat × Bool)} {fr : Nat → AV} {ρ : Operand → Value} (hρ : ∀ x, Rv S (oval fr x) (ρ x))
    (h : a0 E tab ⟨dst, .makeInterface t x, type, pos, after, guard⟩ (valsOf ⟨dst, .makeInterface t x, type, pos, after, guard⟩ fr) K) : AnsN E.P S (execOp ρ ⟨dst, .makeInterface t x, type, pos, after, guard⟩) K := by
  have h : a0 E tab ⟨dst, .makeInterface t x, type, pos, after, guard⟩ [oval fr x] K := h
  simp only [a0] at h
  split at h
  · exact h.elim
  · rename_i d hni hd
    split at h
    · refine AnsN.of_ans (s := Instr.makeInterface t (ρ x)) (Ans.here (v := .iface t (ρ x)) ?_ (.iface _ _ _ (hρ x)) h)
      unfold Instr.makeInterface
      simp only [Sem.run_bind, run_undT hd, Result.andThen_ok]
      cases d <;> first | rfl | (exact (hni _ hd).elim)
    · exact h.elim
  · exact h.elim
theorem a0_makeFunc (fn : Fn) (first captured : Array Operand) {dst : Option Nat} {type : TypeId} {pos : String} {after : Array Edge} {guard : Option (Nat × Bool)} {fr : Nat → AV} {ρ : Operand → Value} (hρ : ∀ x, Rv S (oval fr x) (ρ x))
    (h : a0 E tab ⟨dst, .makeFunc fn first captured, type, pos, after, guard⟩ (valsOf ⟨dst, .makeFunc fn first captured, type, pos, after, guard⟩ fr) K) : AnsN E.P S (execOp ρ ⟨dst, .makeFunc fn first captured, type, pos, after, guard⟩) K := by
  have h : a0 E tab ⟨dst, .makeFunc fn first captured, type, pos, after, guard⟩ ((first.toList ++ captured.toList).map (oval fr)) K := by
    have := h
    simpa [valsOf, Op.operands] using this
  obtain ⟨f, rfl⟩ : ∃ f, fn = .func f := by
    cases fn with
    | func f => exact ⟨f, rfl⟩
    | _ => exact h.elim
  simp only [a0] at h
  refine AnsN.of_ans (s := Instr.makeFunc (.func f) (first.map ρ) (captured.map ρ)) (Ans.here (v := .func (.func f) (first.map ρ) (captured.map ρ)) rfl ?_ h)
  have e1 : ((first.toList ++ captured.toList).map (oval fr)).take first.size = first.toList.map (oval fr) := by simp
  have e2 : ((first.toList ++ captured.toList).map (oval fr)).drop first.size = captured.toList.map (oval fr) := by simp
  rw [e1, e2]
  exact .func _ _ _ _ _ (Cs.map hρ first).1 (Cs.map hρ captured).1 (Cs.map hρ first).2 (Cs.map hρ captured).2
theorem a0_slice (t : TypeId) (x : Operand) (l hh m : Option Operand) {dst : Option Nat} {type : TypeId} {pos : String} {after : Array Edge} {guard : Option (Nat × Bool)} {fr : Nat → AV} {ρ : Operand → Value} (hρ : ∀ x, Rv S (oval fr x) (ρ x))
    (h : a0 E tab ⟨dst, .slice t x l hh m, type, pos, after, guard⟩ (valsOf ⟨dst, .slice t x l hh m, type, pos, after, guard⟩ fr) K) : AnsN E.P S (execOp ρ ⟨dst, .slice t x l hh m, type, pos, after, guard⟩) K := by
  have h : aslice E t (oval fr x) (l.map (oval fr)) (hh.map (oval fr)) (m.map (oval fr)) K := by
    have e : valsOf ⟨dst, .slice t x l hh m, type, pos, after, guard⟩ fr = oval fr x :: (l.toList.map (oval fr) ++ (hh.toList.map (oval fr) ++ (m.toList.map (oval fr) ++ []))) := by
      cases l <;> cases hh <;> cases m <;> rfl
    rw [e] at h
    have h : (let (l', r) := optArg l (l.toList.map (oval fr) ++ (hh.toList.map (oval fr) ++ (m.toList.map (oval fr) ++ [])))
      let (h', r) := optArg hh r
      let (m', _) := optArg m r
      aslice E t (oval fr x) l' h' m' K) := h
    simpa only [optArg_map] using h
  exact AnsN.of_ans (s := Instr.sliceAt t (ρ x) (l.map ρ) (hh.map ρ) (m.map ρ)) (slice_ok h (hρ x) (.of hρ l) (.of hρ hh) (.of hρ m))
theorem a0_fieldAddr (s : TypeId) (x : Operand) (f : Nat) {dst : Option Nat} {type : TypeId} {pos : String} {after : Array Edge} {guard : Option (Nat × Bool)} {fr : Nat → AV} {ρ : Operand → Value} (hρ : ∀ x, Rv S (oval fr x) (ρ x))
    (h : a0 E tab ⟨dst, .fieldAddr s x f, type, pos, after, guard⟩ (valsOf ⟨dst, .fieldAddr s x f, type, pos, after, guard⟩ fr) K) : AnsN E.P S (execOp ρ ⟨dst, .fieldAddr s x f, type, pos, after, guard⟩) K := by
  have h : a0 E tab ⟨dst, .fieldAddr s x f, type, pos, after, guard⟩ [oval fr x] K := h
  simp only [a0] at h
  split at h
  · rename_i fields hu
    split at h
    · rename_i fd hf
      split at h
      · rename_i n hz
        refine AnsN.of_ans (s := Instr.fieldAt s (ρ x) f) ?_
        split at h
        · rename_i b o e
          exact (fieldAddr_ok hu hf hz (hρ x) (.inl ⟨b, o, e, rfl⟩)).imp (by rintro a rfl; exact h)
        · rename_i cs o e
          exact (fieldAddr_ok hu hf hz (hρ x) (.inr (.inl ⟨cs, o, e, rfl⟩))).imp (by rintro a rfl; exact h)
        · rename_i b i o e
          exact (fieldAddr_ok hu hf hz (hρ x) (.inr (.inr ⟨b, i, o, e, rfl⟩))).imp (by rintro a rfl; exact h)
        · exact h.elim
      · exact h.elim
    · exact h.elim
  · exact h.elim
theorem a0_field (t : TypeId) (x : Operand) (f : Nat) {dst : Option Nat} {type : TypeId} {pos : String} {after : Array Edge} {guard : Option (Nat × Bool)} {fr : Nat → AV} {ρ : Operand → Value} (hρ : ∀ x, Rv S (oval fr x) (ρ x))
    (h : a0 E tab ⟨dst, .field t x f, type, pos, after, guard⟩ (valsOf ⟨dst, .field t x f, type, pos, after, guard⟩ fr) K) : AnsN E.P S (execOp ρ ⟨dst, .field t x f, type, pos, after, guard⟩) K := by
  have h : a0 E tab ⟨dst, .field t x f, type, pos, after, guard⟩ [oval fr x] K := h
  have r := hρ x
  generalize oval fr x = vx at h r
  cases vx <;> first | exact h.elim | skip
  rename_i cs
  simp only [a0] at h
  split at h
  · rename_i fields hu
    split at h
    · rename_i fd hf
      split at h
      · rename_i v hv
        exact AnsN.of_ans (s := Instr.field t (ρ x) f) ((field_ok hu hf hv r).imp (by rintro a rfl; exact h))
      · exact h.elim
    · exact h.elim
  · exact h.elim
theorem a0_indexAddr (t : TypeId) (x i : Operand) {dst : Option Nat} {type : TypeId} {pos : String} {after : Array Edge} {guard : Option (Nat × Bool)} {fr : Nat → AV} {ρ : Operand → Value} (hρ : ∀ x, Rv S (oval fr x) (ρ x))
    (h : a0 E tab ⟨dst, .indexAddr t x i, type, pos, after, guard⟩ (valsOf ⟨dst, .indexAddr t x i, type, pos, after, guard⟩ fr) K) : AnsN E.P S (execOp ρ ⟨dst, .indexAddr t x i, type, pos, after, guard⟩) K := by
  have h : a0 E tab ⟨dst, .indexAddr t x i, type, pos, after, guard⟩ [oval fr x, oval fr i] K := h
  have r := hρ i
  generalize hvi : oval fr i = vi at h r
  cases vi <;> first | exact h.elim | skip
  have e := r.int_inv
  refine AnsN.of_ans (s := Instr.indexAt t (ρ x) (ρ i)) ?_
  rw [e]
  exact index_ok rfl h (hρ x)
theorem a0_index (t : TypeId) (x i : Operand) {dst : Option Nat} {type : TypeId} {pos : String} {after : Array Edge} {guard : Option (Nat × Bool)} {fr : Nat → AV} {ρ : Operand → Value} (hρ : ∀ x, Rv S (oval fr x) (ρ x))
    (h : a0 E tab ⟨dst, .index t x i, type, pos, after, guard⟩ (valsOf ⟨dst, .index t x i, type, pos, after, guard⟩ fr) K) : AnsN E.P S (execOp ρ ⟨dst, .index t x i, type, pos, after, guard⟩) K := by
  have h : a0 E tab ⟨dst, .index t x i, type, pos, after, guard⟩ [oval fr x, oval fr i] K := h
  have r := hρ i
  generalize hvi : oval fr i = vi at h r
  cases vi <;> first | exact h.elim | skip
  rename_i k n
  have e := r.int_inv
  refine AnsN.of_ans (s := Instr.index t (ρ x) (ρ i)) ?_
  rw [e]
  have rx := hρ x
  simp only [a0] at h
  split at h
  · rename_i s hu hx
    rw [hx] at rx
    split at h
    · rename_i b hb
      exact (str_index_ok hu hb rx).imp (by rintro a rfl; exact h)
    · exact h.elim
  · rename_i len el cs hu hx
    rw [hx] at rx
    split at h
    · rename_i z hz
      obtain ⟨m, h1, h2, rfl, h3⟩ := caseN_some h
      split at h3
      · rename_i v hv
        exact (arr_index_ok hu hz (by omega) hv rx).imp (by rintro a rfl; exact h3)
      · exact h3.elim
    · exact h.elim
  · exact h.elim
theorem a0_extract (x : Operand) (i : Nat) {dst : Option Nat} {type : TypeId} {pos : String} {after : Array Edge} {guard : Option (Nat × Bool)} {fr : Nat → AV} {ρ : Operand → Value} (hρ : ∀ x, Rv S (oval fr x) (ρ x))
    (h : a0 E tab ⟨dst, .extract x i, type, pos, after, guard⟩ (valsOf ⟨dst, .extract x i, type, pos, after, guard⟩ fr) K) : AnsN E.P S (execOp ρ ⟨dst, .extract x i, type, pos, after, guard⟩) K := by
  have h : a0 E tab ⟨dst, .extract x i, type, pos, after, guard⟩ [oval fr x] K := h
  have r := hρ x
  generalize oval fr x = vx at h r
  cases vx <;> first | exact h.elim | skip
  rename_i cs
  simp only [a0] at h
  split at h
  · rename_i a ha
    obtain ⟨vs, e, c1, c2⟩ := r.tup_inv
    have hi : i < vs.size := by have := (List.getElem?_eq_some_iff.1 ha).1; omega
    have hv : vs[i]? = some vs[i] := Array.getElem?_eq_getElem hi
    refine AnsN.of_ans (s := Instr.extract (ρ x) i) (Ans.here (v := vs[i]) ?_ (c2 i a vs[i] ha hv) h)
    rw [e]
    simp [Instr.extract, hv]
  · exact h.elim
theorem a0_call (c : Call) {dst : Option Nat} {type : TypeId} {pos : String} {after : Array Edge} {guard : Option (Nat × Bool)} {fr : Nat → AV} {ρ : Operand → Value} (hρ : ∀ x, Rv S (oval fr x) (ρ x)) {Q : Sit → Prop} (hF : Q S) (hT : TabQ E.P Q tab)
    (h : a0 E tab ⟨dst, .call c, type, pos, after, guard⟩ (valsOf ⟨dst, .call c, type, pos, after, guard⟩ fr) K) : AnsN E.P S (execOp ρ ⟨dst, .call c, type, pos, after, guard⟩) K := by
  obtain ⟨callee, args, argTypes⟩ := c
  cases callee with
  | value x =>
    have h : a0 E tab ⟨dst, .call ⟨.value x, args, argTypes⟩, type, pos, after, guard⟩ (oval fr x :: args.toList.map (oval fr)) K := by
      have := h
      simpa [valsOf, Op.operands, Call.operands] using this
    generalize hvx : oval fr x = vx at h
    cases vx <;> first | exact h.elim | skip
    rename_i f a b
    simp only [a0] at h
    split at h
    · rename_i en hen
      obtain ⟨ps, qs, e1, e2⟩ := callArgs (S := S) hρ (xs := args) hvx
      obtain ⟨hc, hs⟩ := hT f en hen
      refine .inr ⟨f, ps ++ args.map ρ ++ qs, ?_, hs _ K h S _ hF e2⟩
      have := run_callValue (P := E.P) (c := ⟨.value x, args, argTypes⟩) (ty := type) S.w rfl e1
      rw [show execOp ρ ⟨dst, .call ⟨.value x, args, argTypes⟩, type, pos, after, guard⟩ = (do let d ← resolve ρ ⟨.value x, args, argTypes⟩ type; invoke d.target d.args) from rfl, this]
      exact hc _ _
    · exact h.elim
  | builtin b =>
    have h : abuiltin E b argTypes.toList (args.toList.map (oval fr)) K := by
      have := h
      simpa [a0, valsOf, Op.operands, Call.operands] using this
    have := run_callBuiltin (P := E.P) (ρ := ρ) (c := ⟨.builtin b, args, argTypes⟩) (b := b) (ty := type)
    have key := builtin_ok (argTypes := argTypes) (ty := type) (consts := args.map fun | .const _ => true | _ => false) rfl h (Cs.map hρ args)
    unfold AnsN at key ⊢
    rw [show execOp ρ ⟨dst, .call ⟨.builtin b, args, argTypes⟩, type, pos, after, guard⟩ = (do let d ← resolve ρ ⟨.builtin b, args, argTypes⟩ type; invoke d.target d.args) from rfl]
    simp only [this S.w rfl]
    exact key
  | invoke r m => exact (by have := h; simp [a0] at this)
theorem a0_sound {o : Oper} {fr : Nat → AV} {ρ : Operand → Value} (hρ : ∀ x, Rv S (oval fr x) (ρ x)) {Q : Sit → Prop} (hF : Q S) (hT : TabQ E.P Q tab)
    (h : a0 E tab o (valsOf o fr) K) : AnsN E.P S (execOp ρ o) K := by
  obtain ⟨dst, op, type, pos, after, guard⟩ := o
  cases op with
  | move x => exact .inl ⟨ρ x, _, S, rfl, .refl S, hρ x, h⟩
  | assign x => exact .inl ⟨ρ x, _, S, rfl, .refl S, hρ x, h⟩
  | pick c a b => exact a0_pick c a b hρ h
  | build t parts => exact a0_build t parts hρ h
  | buildSlice t n parts => exact a0_buildSlice t n parts hρ h
  | load t a => exact a0_load t a hρ h
  | nilCheck x => exact a0_nilCheck x hρ h
  | binOp op t x y u => exact a0_binOp op t x y u hρ h
  | unOp op t x => exact a0_unOp op t x hρ h
  | convert s d x => exact a0_convert s d x hρ h
  | makeInterface t x => exact a0_makeInterface t x hρ h
  | makeFunc fn first captured => exact a0_makeFunc fn first captured hρ h
  | slice t x l hh m => exact a0_slice t x l hh m hρ h
  | fieldAddr s x f => exact a0_fieldAddr s x f hρ h
  | field t x f => exact a0_field t x f hρ h
  | indexAddr t x i => exact a0_indexAddr t x i hρ h
  | index t x i => exact a0_index t x i hρ h
  | extract x i => exact a0_extract x i hρ h
  | call c => exact a0_call c hρ hF hT h
  | _ => exact (by have := h; simp [a0] at this)
end
end Gm

namespace Gm
open Go
theorem oneC_ok {S : Sit} {a : AV} {v : Value} (h : oneC a = true) (r : Rv S a v) : v.oneCell' = true := by
  cases r <;> first | rfl | (simp [oneC] at h)
def World.put (w : World) (B : Nat) (o : Obj) : World := { w with heap := w.heap.setIfInBounds B o }
theorem put_get (w : World) (B C : Nat) (o : Obj) (h : B < w.heap.size) : (World.put w B o).heap[C]? = if C = B then some o else w.heap[C]? := by
  unfold World.put
  simp only [Array.getElem?_setIfInBounds]
  by_cases e : C = B
  · subst e; simp [h]
  · rw [if_neg (fun x => e x.symm), if_neg e]
theorem put_size (w : World) (B : Nat) (o : Obj) : (World.put w B o).heap.size = w.heap.size := by simp [World.put]
theorem setCell_put {w : World} {B k : Nat} {c : Array Value} {e : TypeId} {fz : Nat × Nat} (v : Value) (h : w.heap[B]? = some (.cells c e fz)) :
    w.setCell (at_ B k) v = World.put w B (.cells (c.setIfInBounds k v) e fz) := by
  have hB := heap_lt h
  have e2 : (w.setCell (at_ B k) v).heap = (World.put w B (.cells (c.setIfInBounds k v) e fz)).heap := by
    apply Array.ext
    · simp [World.setCell, World.put]
    · intro i h1 h2
      have h3 : (w.setCell (at_ B k) v).heap[i]? = (World.put w B (.cells (c.setIfInBounds k v) e fz)).heap[i]? := by
        rw [put_get w B i _ hB]
        simp only [World.setCell, Array.getElem?_modify, at_]
        by_cases e : B = i
        · subst e; simp [h]
        · rw [if_neg e, if_neg (fun x => e x.symm)]
      rw [Array.getElem?_eq_getElem h1, Array.getElem?_eq_getElem h2] at h3
      exact Option.some.inj h3
  unfold World.put at e2 ⊢
  unfold World.setCell at e2 ⊢
  simp only at e2 ⊢
  rw [e2]
theorem put_put (w : World) (B : Nat) (o o' : Obj) : World.put (World.put w B o) B o' = World.put w B o' := by
  simp [World.put, Array.setIfInBounds_setIfInBounds]
theorem put_self {w : World} {B : Nat} {o : Obj} (h : w.heap[B]? = some o) : World.put w B o = w := by
  have hB := heap_lt h
  have : w.heap.setIfInBounds B o = w.heap := by
    apply Array.ext
    · simp
    · intro i h1 h2
      have h3 : (w.heap.setIfInBounds B o)[i]? = w.heap[i]? := by
        simp only [Array.getElem?_setIfInBounds]
        by_cases e : B = i
        · subst e; simp only [hB, if_true]; exact h.symm
        · rw [if_neg e]
      rw [Array.getElem?_eq_getElem h1, Array.getElem?_eq_getElem h2] at h3
      exact Option.some.inj h3
  unfold World.put
  rw [this]
theorem run_storeC (P : Program) (B o : Nat) (e : TypeId) (fz : Nat × Nat) : ∀ (vs : List Value) (i : Nat) (cur : Array Value) (w : World), w.heap[B]? = some (.cells cur e fz) →
    (∀ j, o + i ≤ j → j < o + i + vs.length → ¬ (fz.1 ≤ j ∧ j < fz.2)) → o + i + vs.length ≤ cur.size → (∀ v ∈ vs, v.oneCell' = true) →
    ∃ cur' : Array Value, (storeCells (at_ B o) vs i).run P w = Result.ok () (World.put w B (.cells cur' e fz)) ∧ cur'.size = cur.size ∧
      ∀ k : Nat, cur'[k]? = if o + i ≤ k ∧ k < o + i + vs.length then vs[k - (o + i)]? else cur[k]?
  | [], i, cur, w, h, _, _, _ => by
    refine ⟨cur, ?_, rfl, fun k => ?_⟩
    · rw [put_self h]; rfl
    · rw [if_neg (by simp <;> omega)]
  | v :: vs, i, cur, w, h, hf, hl, h1 => by
    have hi : o + i < cur.size := by simp at hl; omega
    have hB := heap_lt h
    have hc : w.cell? (at_ B (o + i)) = some cur[o + i] := by rw [cell_at, h]; simp [hi]
    have hfr : w.frozen? (at_ B (o + i)) = false := by
      have := hf (o + i) (Nat.le_refl _) (by simp)
      obtain ⟨lo, hi'⟩ := fz
      simp only [World.frozen?, at_, h]
      simp only at this
      rw [Bool.eq_false_iff]
      intro hh
      rw [Bool.and_eq_true] at hh
      exact this ⟨of_decide_eq_true hh.1, of_decide_eq_true hh.2⟩
    have hst : (store ((at_ B o).add i) v).run P w = Result.ok () (World.put w B (.cells (cur.setIfInBounds (o + i) v) e fz)) := by
      rw [add_at, run_store P w _ v _ (h1 v (by simp)), hc]
      simp [hfr, setCell_put v h]
    obtain ⟨cur', h2, h3, h4⟩ := run_storeC P B o e fz vs (i + 1) (cur.setIfInBounds (o + i) v) (World.put w B (.cells (cur.setIfInBounds (o + i) v) e fz))
      (by rw [put_get _ _ _ _ hB, if_pos rfl]) (fun j hj1 hj2 => hf j (by omega) (by simp at hj2 ⊢; omega)) (by simp at hl ⊢; omega) (fun x hx => h1 x (by simp [hx]))
    refine ⟨cur', ?_, by simpa using h3, fun k => ?_⟩
    · simp only [storeCells, Sem.run_bind, hst, Result.andThen_ok, h2, put_put]
    · rw [h4 k]
      by_cases e1 : k = o + i
      · subst e1
        rw [if_neg (by omega), if_pos (by simp)]
        simp [hi]
      · by_cases e2 : o + i ≤ k ∧ k < o + i + (v :: vs).length
        · rw [if_pos e2, if_pos (by simp at e2; omega)]
          have : k - (o + i) = (k - (o + (i + 1))) + 1 := by omega
          rw [this]; rfl
        · rw [if_neg e2, if_neg (by simp at e2 ⊢; omega)]
          rw [Array.getElem?_setIfInBounds_ne (by omega)]
theorem RB.keepW {S T : Sit} (h : LeW S T) {b : Nat} {k : Blk} (hG : T.G b = S.G b) (hh : ∀ B, k ≠ .dead → (S.G b).blk = some B → T.w.heap[B]? = S.w.heap[B]?)
    (hF : ∀ B o, k ≠ .dead → (S.G b).blk = some B → T.F B o → S.F B o) (r : RB S b k) : RB T b k := by
  cases k with
  | dead => trivial
  | cells cs =>
    rcases r with r | ⟨B, c, e, fz, hB, hp, h1, h2, h3, h4⟩
    · exact .inl (by rw [hG]; exact r)
    refine .inr ⟨B, c, e, fz, by rw [hG]; exact hB, by rw [hh B (by simp) hB]; exact hp, h1, h2, fun i a v ha hv => (h3 i a v ha hv).monoW h, ?_⟩
    exact fun o hf => h4 o (hF B o (by simp) hB hf)
  | row ro t xs =>
    obtain ⟨h1, h2, h3⟩ := r
    refine ⟨by rw [hG]; exact h1, by rw [hG]; exact h2, ?_⟩
    rw [hG]
    rcases h3 with h3 | ⟨B, c, e, fz, hB, hp, h4, h5, h6, h7, h8⟩
    · exact .inl h3
    · exact .inr ⟨B, c, e, fz, hB, by rw [hh B (by simp) hB]; exact hp, h4, h5, h6, fun i x j a v hx ha hv => (h7 i x j a v hx ha hv).monoW h, fun o hf => h8 o (hF B o (by simp) hB hf)⟩
theorem RB.keep {S T : Sit} (h : Le S T) {b : Nat} {k : Blk} (hG : T.G b = S.G b) (hh : ∀ B, k ≠ .dead → (S.G b).blk = some B → T.w.heap[B]? = S.w.heap[B]?)
    (hF : ∀ B o, k ≠ .dead → (S.G b).blk = some B → T.F B o → S.F B o) (r : RB S b k) : RB T b k := r.keepW h.w hG hh hF
section
variable {E : Env} {S : Sit} {K : AV → Prop} {w0 : World} {A : Ow} {hs : HS}
theorem RH.block {b : Nat} {k : Blk} (r : RH w0 A S hs) (h : hs.hp b = k) : RB S b k := h ▸ r.blks b
theorem load_ptr {t : TypeId} {b i : Nat} {cs : List AV} {a : AV} {v : Value} (r : RH w0 A S hs) (hb : hs.hp b = .cells cs) (hp : partC E t cs i = some a) (rv : Rv S (.ptr b i) v) :
    Ans E.P S (Instr.loadAt t v) (fun x => x = a) := by
  rcases r.block hb with hz | ⟨B, c, e, fz, hB, hh, h1, h2, h3, h4⟩
  · cases rv with
    | ptr _ _ B' _ hB' => rw [hz] at hB'; cases hB'
  cases rv with
  | ptr _ _ B' _ hB' =>
    rw [hB] at hB'
    cases hB'
    obtain ⟨v, h5, h6⟩ := load_ok (S := S) (B := B) (f := 0) (fun k => c.getD k undef) hp (fun i hi => by
      rw [Nat.zero_add, cell_at, hh]
      simp [Array.getD, show i < c.size by omega]) (fun i a' ha => by
        have hi : i < cs.length := (List.getElem?_eq_some_iff.1 ha).1
        have hc : c[i]? = some c[i] := Array.getElem?_eq_getElem (by omega)
        have := h3 i a' c[i] ha hc
        simpa [Array.getD, show i < c.size by omega] using this)
    rw [Nat.zero_add] at h5
    exact Ans.here (by simp [Instr.loadAt, Instr.sureAddr, h5]) h6 rfl
theorem load_elt {t : TypeId} {b j i : Nat} {ro : Bool} {t' : Ty} {xs : List t'.den} {x : t'.den} {a : AV} {v : Value} (r : RH w0 A S hs) (hb : hs.hp b = .row ro t' xs) (hx : xs[j]? = some x)
    (hp : partC E t (enc t' x).cells i = some a) (rv : Rv S (.elt b j i) v) : Ans E.P S (Instr.loadAt t v) (fun y => y = a) := by
  obtain ⟨h1, h2, h3⟩ := r.block hb
  cases rv with
  | elt _ _ _ B' _ _ hB' =>
    rcases h3 with ⟨h3, _⟩ | ⟨B, c, e, fz, hB, hh, h4, h5, h6, h7, h8⟩
    · rw [h3] at hB'; cases hB'
    · rw [hB] at hB'
      cases hB'
      have hj : j < xs.length := (List.getElem?_eq_some_iff.1 hx).1
      have hsz : j * t'.sz + t'.sz ≤ c.size := by
        have : (j + 1) * t'.sz ≤ (S.G b).cap * t'.sz := Nat.mul_le_mul_right _ (by omega)
        rw [Nat.add_mul, Nat.one_mul] at this
        omega
      have hl := enc_cells_length t' x
      obtain ⟨v, h9, h10⟩ := load_ok (S := S) (B := B') (f := j * t'.sz) (fun k => c.getD (j * t'.sz + k) undef) hp (fun i hi => by
        rw [cell_at, hh]
        simp [Array.getD, show j * t'.sz + i < c.size by omega]) (fun i a' ha => by
          have hi : i < (enc t' x).cells.length := (List.getElem?_eq_some_iff.1 ha).1
          have hc : c[j * t'.sz + i]? = some c[j * t'.sz + i] := Array.getElem?_eq_getElem (by omega)
          have := h7 j x i a' _ hx ha hc
          simpa [Array.getD, show j * t'.sz + i < c.size by omega] using this)
      rw [h2]
      exact Ans.here (by simp [Instr.loadAt, Instr.sureAddr, h9]) h10 rfl
theorem slr_val {b : Nat} {ro : Bool} {t' : Ty} {xs : List t'.den} {v : Value} (r : RH w0 A S hs) (hb : hs.hp b = .row ro t' xs) (rv : Rv S (.slr b) v) :
    (∃ a, v = .slice a 0 0 ∧ xs = [] ∧ (S.G b).blk = none) ∨ ∃ B c e fz, v = .slice (some (at_ B 0)) xs.length (S.G b).cap ∧ b < S.N ∧ (S.G b).blk = some B ∧ S.w.heap[B]? = some (.cells c e fz) ∧ xs.length ≤ (S.G b).cap ∧ (S.G b).cap * t'.sz ≤ c.size ∧
        (∀ o, o < (S.G b).cap * t'.sz → ¬ (fz.1 ≤ o ∧ o < fz.2)) ∧
        (∀ (i : Nat) x (j : Nat) a v, xs[i]? = some x → (enc t' x).cells[j]? = some a → c[i * t'.sz + j]? = some v → Rv S a v) ∧
        (∀ o, S.F B o → ro = true ∧ o < xs.length * t'.sz) := by
  obtain ⟨h1, h2, h3⟩ := r.block hb
  cases rv with
  | slr _ B' hN hB' =>
    rcases h3 with ⟨h3, _⟩ | ⟨B, c, e, fz, hB, hh, h4, h5, h6, h7, h8⟩
    · rw [h3] at hB'; cases hB'
    · rw [hB] at hB'
      cases hB'
      rw [h1]
      exact .inr ⟨_, c, e, fz, rfl, hN, hB, hh, h4, h5, h6, h7, h8⟩
  | slrN _ a hN hn hl hc =>
    rcases h3 with ⟨h3, h4, h5⟩ | ⟨B, c, e, fz, hB, _⟩
    · exact .inl ⟨a, rfl, h4, h3⟩
    · rw [hn] at hB; cases hB
end
end Gm

namespace Gm
open Go
def AnsH (P : Program) (w0 : World) (A : Ow) (S : Sit) (s : Sem Next) (K : AV → HS → Prop) : Prop :=
  (∃ v a T hs', (s.run P S.w = Result.ok (.value v) T.w ∨ (s.run P S.w = Result.ok .skip T.w ∧ v = undef)) ∧ Le S T ∧ RH w0 A T hs' ∧ Rv T a v ∧ K a hs') ∨
  (∃ f args, s.run P S.w = Result.ok (.enter f args) S.w ∧
    Calls P f args S.w (fun e w' => ∃ v a T hs', e = .returned v ∧ T.w = w' ∧ Le S T ∧ RH w0 A T hs' ∧ Rv T a v ∧ K a hs'))
def AnsV (P : Program) (w0 : World) (A : Ow) (S : Sit) (s : Sem Value) (K : AV → HS → Prop) : Prop :=
  ∃ v a T hs', s.run P S.w = Result.ok v T.w ∧ Le S T ∧ RH w0 A T hs' ∧ Rv T a v ∧ K a hs'
def TabAt (P : Program) (w0 : World) (A : Ow) (tab : Tab) : Prop := TabQ P (fun S => ∃ hs, RH w0 A S hs) tab
def CalSound (P : Program) (w0 : World) (A : Ow) (cal : Callee) : Prop := ∀ f args hs K, cal f args hs K → Callable P f ∧ ∀ (S : Sit) (vs : Array Value), RH w0 A S hs → Cs S args vs →
  Calls P f vs S.w (fun e w' => ∃ v a T hs', e = .returned v ∧ T.w = w' ∧ Le S T ∧ RH w0 A T hs' ∧ Rv T a v ∧ K a hs')
def CloneSound (E : Env) : Prop := ∀ f t w, E.clone f = some (t, w) → Callable E.P f ∧ ∀ (w0 : World) (A : Ow) (S : Sit) (hs : HS) (v : Value) (xs : List t.den), RH w0 A S hs → Rv S (.sl .any t xs) v →
  xs.length * w ≤ room → Calls E.P f #[v] S.w (fun e w' => ∃ v a T, e = .returned v ∧ a = .slr hs.hn ∧ T.w = w' ∧ Le S T ∧ RH w0 A T (hs.push (.row false t xs)) ∧ Rv T a v)
section
variable {E : Env} {S : Sit} {w0 : World} {A : Ow} {hs : HS}
theorem AnsH.of_ansV {P : Program} {s : Sem Value} {K : AV → HS → Prop} (h : AnsV P w0 A S s K) : AnsH P w0 A S (do pure (.value (← s))) K := by
  obtain ⟨v, a, T, hs', h1, h2, h3, h4, h5⟩ := h
  exact .inl ⟨v, a, T, hs', .inl (by simp [h1]), h2, h3, h4, h5⟩
theorem AnsH.of_ansN {P : Program} {s : Sem Next} {K : AV → HS → Prop} (r : RH w0 A S hs) (h : AnsN P S s (fun v => K v hs)) : AnsH P w0 A S s K := by
  rcases h with ⟨v, a, T, h1, h2, h3, h4⟩ | ⟨f, args, h1, h2⟩
  · exact .inl ⟨v, a, T, hs, .inl h1, h2.le, r.ext h2, h3, h4⟩
  · refine .inr ⟨f, args, h1, h2.mono ?_⟩
    rintro e w' ⟨v, a, T, rfl, rfl, h5, h6, h7⟩
    exact ⟨v, a, T, hs, rfl, rfl, h5.le, r.ext h5, h6, h7⟩
theorem RH.alive_lt (r : RH w0 A S hs) {b B : Nat} (h : hs.hp b ≠ .dead) (hB : (S.G b).blk = some B) : B < S.w.heap.size := by
  have hb := r.blks b
  cases hk : hs.hp b with
  | dead => exact absurd hk h
  | cells cs =>
    rw [hk] at hb
    rcases hb with hz | ⟨B', c, e, fz, h1, h2, _⟩
    · rw [hz] at hB; cases hB
    rw [hB] at h1; cases h1
    exact heap_lt h2
  | row ro t xs =>
    rw [hk] at hb
    obtain ⟨_, _, h3⟩ := hb
    rcases h3 with ⟨h3, _⟩ | ⟨B', c, e, fz, h1, h2, _⟩
    · rw [hB] at h3; cases h3
    · rw [hB] at h1; cases h1
      exact heap_lt h2
def Sit.name (S : Sit) (o : Obj) (n : Nat) (len cap esz : Nat) : Sit :=
  { w := { S.w with heap := S.w.heap.push o, drawn := n }, F := S.F, G := upd S.G S.N ⟨some S.w.heap.size, len, cap, esz⟩, N := S.N + 1 }
theorem upd_self {α : Type} (f : Nat → α) (k : Nat) (v : α) : upd f k v k = v := by simp [upd]
theorem upd_ne {α : Type} (f : Nat → α) {k n : Nat} (v : α) (h : n ≠ k) : upd f k v n = f n := by
  have : Nat.beq n k = false := by rw [Bool.eq_false_iff]; simpa using h
  simp [upd, this]
theorem name_heap (S : Sit) (o : Obj) (n len cap esz : Nat) (B : Nat) (h : B ≠ S.w.heap.size) : (S.name o n len cap esz).w.heap[B]? = S.w.heap[B]? := by
  show (S.w.heap.push o)[B]? = _
  rw [Array.getElem?_push, if_neg h]
theorem name_heap_self (S : Sit) (o : Obj) (n len cap esz : Nat) : (S.name o n len cap esz).w.heap[S.w.heap.size]? = some o := by
  show (S.w.heap.push o)[S.w.heap.size]? = _
  rw [Array.getElem?_push, if_pos rfl]
theorem Le.name (S : Sit) (o : Obj) (n len cap esz : Nat) (hF : ∀ B o, S.F B o → B < S.w.heap.size) : Le S (S.name o n len cap esz) where
  F := fun _ _ h => h
  cell := fun B k v h hc => by
    have := hF B k h
    rw [cell_at, name_heap _ _ _ _ _ _ _ (by omega), ← cell_at]
    exact hc
  G := fun b hb => upd_ne _ _ (by omega)
  N := by simp [Sit.name]
theorem RH.name (r : RH w0 A S hs) (o : Obj) (n len cap esz : Nat) (k : Blk) (hk : RB (S.name o n len cap esz) S.N k) : RH w0 A (S.name o n len cap esz) (hs.push k) where
  N := by simp [Sit.name, HS.push, r.N]
  dead := fun b hb => by
    simp only [HS.push] at hb ⊢
    rw [upd_ne _ _ (by omega)]
    exact r.dead b (by omega)
  blks := fun b => by
    simp only [HS.push]
    by_cases e : b = hs.hn
    · subst e
      rw [upd_self]
      rw [← r.N]
      exact hk
    · rw [upd_ne _ _ e]
      refine RB.keep (Le.name S o n len cap esz r.F) (upd_ne _ _ (by rw [r.N]; exact e)) ?_ (fun B o _ _ h => h) (r.blks b)
      intro B hd hB
      have := r.alive_lt hd hB
      exact name_heap _ _ _ _ _ _ _ (by omega)
  inj := fun b c B hne hb hc hB hC => by
    simp only [HS.push] at hb hc
    have e1 : ∀ x, hs.hp x ≠ .dead → ((S.name o n len cap esz).G x).blk = some B → x ≠ S.N → B < S.w.heap.size := by
      intro x hx hxB hxn
      have : ((S.name o n len cap esz).G x) = S.G x := upd_ne _ _ hxn
      rw [this] at hxB
      exact r.alive_lt hx hxB
    have e2 : ((S.name o n len cap esz).G S.N).blk = some S.w.heap.size := by
      show (upd S.G S.N _ S.N).blk = _
      rw [upd_self]
    by_cases hbn : b = S.N
    · have hcn : c ≠ S.N := fun h => hne (hbn.trans h.symm)
      rw [upd_ne _ _ (by rw [← r.N]; exact hcn)] at hc
      have := e1 c hc hC hcn
      subst hbn
      rw [e2] at hB
      cases hB
      omega
    · rw [upd_ne _ _ (by rw [← r.N]; exact hbn)] at hb
      have h1 := e1 b hb hB hbn
      by_cases hcn : c = S.N
      · subst hcn
        rw [e2] at hC
        cases hC
        omega
      · rw [upd_ne _ _ (by rw [← r.N]; exact hcn)] at hc
        have g1 : ((S.name o n len cap esz).G b) = S.G b := upd_ne _ _ hbn
        have g2 : ((S.name o n len cap esz).G c) = S.G c := upd_ne _ _ hcn
        rw [g1] at hB
        rw [g2] at hC
        exact r.inj b c B hne hb hc hB hC
  F := fun B o h => by
    have := r.F B o h
    show B < (S.w.heap.push _).size
    simp; omega
  os := r.os
  tape := r.tape
  output := r.output
  size := by
    have := r.size
    show _ ≤ (S.w.heap.push o).size
    simp; omega
  old := fun B hB hA => by
    rw [name_heap _ _ _ _ _ _ _ (by have := r.size; omega)]
    exact r.old B hB hA
  own := fun b B hb hB => by
    simp only [HS.push] at hb
    by_cases hbn : b = S.N
    · subst hbn
      have e2 : ((S.name o n len cap esz).G S.N).blk = some S.w.heap.size := by
        show (upd S.G S.N _ S.N).blk = _
        rw [upd_self]
      rw [e2] at hB
      cases hB
      exact .inr r.size
    · rw [upd_ne _ _ (by rw [← r.N]; exact hbn)] at hb
      have g1 : ((S.name o n len cap esz).G b) = S.G b := upd_ne _ _ hbn
      rw [g1] at hB
      exact r.own b B hb hB
  fo := r.fo
theorem name_ptr (S : Sit) (o : Obj) (n len cap esz : Nat) : Rv (S.name o n len cap esz) (.ptr S.N 0) (.pointer (some (at_ S.w.heap.size 0))) :=
  .ptr _ _ _ (by simp [Sit.name]) (by show (upd S.G S.N _ S.N).blk = _; rw [upd_self])
theorem RB_name_cells {cs : List AV} {c : Array Value} {e : TypeId} {n : Nat} (r : RH w0 A S hs) (h : Cs S cs c) : RB (S.name (.cells c e) n 0 0 0) S.N (.cells cs) := by
  refine .inr ⟨S.w.heap.size, c, e, (0, 0), by show (upd S.G S.N _ S.N).blk = _; rw [upd_self], name_heap_self _ _ _ _ _ _, h.1.symm, fun o ho => by simp, ?_, ?_⟩
  · intro i a v ha hv
    exact (h.2 i a v ha hv).mono (Le.name S _ _ _ _ _ r.F)
  · intro o hF
    have := r.F _ o hF
    omega
theorem alloc_ok {t : TypeId} {z : AV} {K : AV → HS → Prop} (r : RH w0 A S hs) (hz : zeroC E t = some z) (hs1 : z.solid = true) (hK : K (.ptr hs.hn 0) (hs.push (.cells z.cells))) :
    AnsV E.P w0 A S (Instr.alloc t true (.tuple #[])) K := by
  obtain ⟨zv, h1, h2⟩ := zero_ok hz
  have hr : Rv S z zv := by rw [h2]; exact vAV_ok _
  have hc := hr.cells hs1
  refine ⟨.pointer (some (at_ S.w.heap.size 0)), .ptr S.N 0, S.name (.cells zv.cells t) S.w.drawn 0 0 0, hs.push (.cells z.cells), ?_, Le.name _ _ _ _ _ _ r.F, r.name _ _ _ _ _ _ (RB_name_cells r hc), name_ptr _ _ _ _ _ _, by rw [r.N]; exact hK⟩
  simp [Instr.alloc, h1, newVar, newRow]
  exact ⟨rfl, rfl⟩
theorem box_ok {t : TypeId} {a : AV} {v : Value} {K : AV → HS → Prop} (r : RH w0 A S hs) (hs1 : a.solid = true) (hv : Rv S a v) (hK : K (.ptr hs.hn 0) (hs.push (.cells a.cells))) :
    AnsV E.P w0 A S (Instr.box t v) K := by
  have hc := hv.cells hs1
  refine ⟨.pointer (some (at_ S.w.heap.size 0)), .ptr S.N 0, S.name (.cells v.cells t) S.w.drawn 0 0 0, hs.push (.cells a.cells), ?_, Le.name _ _ _ _ _ _ r.F, r.name _ _ _ _ _ _ (RB_name_cells r hc), name_ptr _ _ _ _ _ _, by rw [r.N]; exact hK⟩
  simp [Instr.box, newVar, newRow]
  exact ⟨rfl, rfl⟩
theorem row_new {t : Ty} {xs : List t.den} {c : Array Value} {e : TypeId} {fz : Nat × Nat} {n cap : Nat} (r : RH w0 A S hs) (h1 : xs.length ≤ cap) (h2 : cap * t.sz ≤ c.size)
    (h3 : ∀ o, o < cap * t.sz → ¬ (fz.1 ≤ o ∧ o < fz.2))
    (h4 : ∀ (i : Nat) x (j : Nat) a v, xs[i]? = some x → (enc t x).cells[j]? = some a → c[i * t.sz + j]? = some v → Rv S a v) :
    RB (S.name (.cells c e fz) n xs.length cap t.sz) S.N (.row false t xs) := by
  have e1 : (S.name (.cells c e fz) n xs.length cap t.sz).G S.N = ⟨some S.w.heap.size, xs.length, cap, t.sz⟩ := upd_self _ _ _
  refine ⟨by rw [e1], by rw [e1], .inr ⟨S.w.heap.size, c, e, fz, by rw [e1], name_heap_self _ _ _ _ _ _, by rw [e1]; exact h1, by rw [e1]; exact h2, by rw [e1]; exact h3, ?_, ?_⟩⟩
  · intro i x j a v hx ha hv
    exact (h4 i x j a v hx ha hv).mono (Le.name S _ _ _ _ _ r.F)
  · intro o hF
    have := r.F _ o hF
    omega
theorem name_slr (S : Sit) (o : Obj) (n len cap esz : Nat) : Rv (S.name o n len cap esz) (.slr S.N) (.slice (some (at_ S.w.heap.size 0)) len cap) := by
  have e1 : (S.name o n len cap esz).G S.N = ⟨some S.w.heap.size, len, cap, esz⟩ := upd_self _ _ _
  have h := Rv.slr (S := S.name o n len cap esz) S.N S.w.heap.size (by simp [Sit.name]) (by rw [e1])
  rw [e1] at h
  exact h
end
end Gm

namespace Gm
open Go
section
variable {E : Env} {S : Sit} {w0 : World} {A : Ow} {hs : HS}
theorem RH.set (r : RH w0 A S hs) {b B : Nat} {o : Obj} {k : Blk} (hd : hs.hp b ≠ .dead) (hB : (S.G b).blk = some B) (hle : Le S { S with w := World.put S.w B o })
    (hk : RB { S with w := World.put S.w B o } b k) : RH w0 A { S with w := World.put S.w B o } { hs with hp := upd hs.hp b k } := by
  have hlt := r.alive_lt hd hB
  have hbn : b < hs.hn := Nat.lt_of_not_le fun h => hd (r.dead b h)
  have live : ∀ x, upd hs.hp b k x ≠ .dead → hs.hp x ≠ .dead := by
    intro x hx
    by_cases e : x = b
    · rw [e]; exact hd
    · rwa [upd_ne _ _ e] at hx
  exact {
    N := r.N
    dead := fun x (hx : hs.hn ≤ x) => by
      show upd hs.hp b k x = .dead
      rw [upd_ne _ _ (by omega)]
      exact r.dead x hx
    blks := fun x => by
      show RB _ x (upd hs.hp b k x)
      by_cases e : x = b
      · subst e; rw [upd_self]; exact hk
      · rw [upd_ne _ _ e]
        refine RB.keep hle rfl ?_ (fun B o _ _ h => h) (r.blks x)
        intro C hx hC
        show (World.put S.w B o).heap[C]? = _
        rw [put_get _ _ _ _ hlt, if_neg]
        rintro rfl
        exact r.inj x b C e hx hd hC hB
    inj := fun x y C hne hx hy hC => r.inj x y C hne (live x hx) (live y hy) hC
    F := fun C o h => by
      show C < (World.put S.w B _).heap.size
      rw [put_size]
      exact r.F C o h
    os := r.os
    tape := r.tape
    output := r.output
    size := by
      show _ ≤ (World.put S.w B _).heap.size
      rw [put_size]
      exact r.size
    old := fun C hC hA => by
      show (World.put S.w B _).heap[C]? = _
      rw [put_get _ _ _ _ hlt, if_neg]
      · exact r.old C hC hA
      · rintro rfl
        rcases r.own b C hd hB with h | h
        · exact hA h
        · omega
    own := fun x C hx hC => r.own x C (live x hx) hC
    fo := r.fo }
theorem Le.put {B : Nat} {c c' : Array Value} {e : TypeId} {fz : Nat × Nat} (hh : S.w.heap[B]? = some (.cells c e fz)) (h : ∀ o, S.F B o → c'[o]? = c[o]?) :
    Le S { S with w := World.put S.w B (.cells c' e fz) } where
  F := fun _ _ h => h
  cell := fun C o v hF hc => by
    rw [cell_at] at hc ⊢
    show (match (World.put S.w B _).heap[C]? with | some (.cells c _ _) => c[o]? | _ => none) = some v
    rw [put_get _ _ _ _ (heap_lt hh)]
    by_cases e : C = B
    · subst e
      rw [hh] at hc
      rw [if_pos rfl]
      show c'[o]? = some v
      rw [h o hF]
      exact hc
    · rw [if_neg e]
      exact hc
  G := fun _ _ => rfl
  N := Nat.le_refl _
theorem cells_list {a : AV} {v : Value} (hv : Rv S a v) (hs1 : a.solid = true) (h1 : a.cells.all oneC = true) : ∀ u ∈ v.cells.toList, u.oneCell' = true := by
  intro u hu
  obtain ⟨i, hi, rfl⟩ := List.getElem_of_mem hu
  have hc := hv.cells hs1
  have hi' : i < a.cells.length := by simp at hi; omega
  have h2 := hc.2 i a.cells[i] v.cells.toList[i] (List.getElem?_eq_getElem hi') (by rw [← Array.getElem?_toList]; exact List.getElem?_eq_getElem hi)
  exact oneC_ok (List.all_eq_true.1 h1 _ (List.getElem_mem hi')) h2
theorem store_ptr {t : TypeId} {b i z : Nat} {cs : List AV} {a : AV} {p v : Value} (r : RH w0 A S hs) (hb : hs.hp b = .cells cs) (hz : szT E t = some z) (hs1 : a.solid = true) (h1 : a.cells.all oneC = true)
    (hlen : a.cells.length = z) (hi : i + z ≤ cs.length) (rp : Rv S (.ptr b i) p) (rv : Rv S a v) :
    ∃ T, (Instr.storeAt t p v).run E.P S.w = Result.ok () T.w ∧ Le S T ∧ RH w0 A T { hs with hp := upd hs.hp b (.cells (spliceC cs i a.cells)) } := by
  rcases r.block hb with hz | ⟨B, c, e, fz, hB, hh, c1, c2, c3, c4⟩
  · cases rp with
    | ptr _ _ B' _ hB' => rw [hz] at hB'; cases hB'
  have hc := rv.cells hs1
  cases rp with
  | ptr _ _ B' _ hB' =>
    rw [hB] at hB'
    cases hB'
    obtain ⟨c', h2, h3, h4⟩ := run_storeC E.P B i e fz v.cells.toList 0 c S.w hh (fun j _ hj => c2 j (by simp at hj; omega)) (by simp; omega) (cells_list rv hs1 h1)
    have hle : Le S { S with w := World.put S.w B (.cells c' e fz) } := Le.put hh (fun o hF => (c4 o hF).elim)
    refine ⟨{ S with w := World.put S.w B (.cells c' e fz) }, ?_, hle, ?_⟩
    · unfold Instr.storeAt storeVar
      simp only [Instr.sureAddr, Sem.run_bind, Sem.run_pure, Result.andThen_ok, run_sizeT hz]
      rw [if_neg (by simp; omega)]
      exact h2
    · refine r.set (by rw [hb]; simp) hB hle ?_
      have hl : (spliceC cs i a.cells).length = cs.length := by simp [spliceC]; omega
      have hBlt := heap_lt hh
      refine .inr ⟨B, c', e, fz, hB, by show (World.put S.w B _).heap[B]? = _; rw [put_get _ _ _ _ hBlt, if_pos rfl], by rw [h3, c1, hl], fun o ho => c2 o (by rw [hl] at ho; exact ho), ?_, c4⟩
      intro k x u hx hu
      have hk : k < cs.length := by rw [← hl]; exact (List.getElem?_eq_some_iff.1 hx).1
      rw [h4 k] at hu
      simp only [Nat.add_zero, Array.length_toList, Array.getElem?_toList] at hu
      refine Rv.mono hle ?_
      unfold spliceC at hx
      by_cases k1 : k < i
      · rw [List.getElem?_append_left (by simp; omega), List.getElem?_take_of_lt k1] at hx
        rw [if_neg (by omega)] at hu
        exact c3 k x u hx hu
      · rw [List.getElem?_append_right (by simp; omega)] at hx
        have e1 : (List.take i cs).length = i := by simp; omega
        rw [e1] at hx
        by_cases k2 : k < i + a.cells.length
        · rw [List.getElem?_append_left (by omega)] at hx
          rw [if_pos (by omega)] at hu
          exact hc.2 _ x u hx hu
        · rw [List.getElem?_append_right (by omega), List.getElem?_drop] at hx
          rw [if_neg (by omega)] at hu
          have e2 : i + a.cells.length + (k - i - a.cells.length) = k := by omega
          rw [e2] at hx
          exact c3 k x u hx hu
theorem enc_solid (t : Ty) (x : t.den) : (enc t x).solid = true := by cases t <;> rfl
theorem encL_one : ∀ (ts : List Ty) (d : Dens ts), (encL ts d).all oneC = true
  | [], _ => rfl
  | t :: r, d => by
    have h1 : oneC (encLf t d.1) = true := by cases t <;> rfl
    simp only [encL, List.all_cons, h1, encL_one r d.2, Bool.and_self]
theorem encS_one (n : Nat) (x : denS n) : (encS n x).all oneC = true := encL_one _ _
theorem enc_one (t : Ty) (x : t.den) : (enc t x).cells.all oneC = true := by
  cases t with
  | st n => exact encS_one n x
  | _ => rfl
theorem store_elt {t : TypeId} {b j z : Nat} {t' : Ty} {xs : List t'.den} {y : t'.den} {a : AV} {p v : Value} (r : RH w0 A S hs) (hb : hs.hp b = .row false t' xs) (hz : szT E t = some z) (hzt : z = t'.sz)
    (hd : dec t' a = some y) (rp : Rv S (.elt b j 0) p) (rv : Rv S a v) :
    ∃ T, (Instr.storeAt t p v).run E.P S.w = Result.ok () T.w ∧ Le S T ∧ RH w0 A T { hs with hp := upd hs.hp b (.row false t' (xs.set j y)) } := by
  obtain ⟨g1, g2, g3⟩ := r.block hb
  have ry := rv.dec hd
  have hc := ry.cells (enc_solid t' y)
  have hyl := enc_cells_length t' y
  cases rp with
  | elt _ _ _ B' _ hj0 hB' =>
    have hj : j < xs.length := by rw [← g1]; exact hj0
    rcases g3 with ⟨g3, _⟩ | ⟨B, c, e, fz, hB, hh, g4, g5, g6, g7, g8⟩
    · rw [g3] at hB'; cases hB'
    · rw [hB] at hB'
      cases hB'
      rw [g2]
      have hjz : j * t'.sz + t'.sz ≤ (S.G b).cap * t'.sz := by
        have : (j + 1) * t'.sz ≤ (S.G b).cap * t'.sz := Nat.mul_le_mul_right _ (by omega)
        rw [Nat.add_mul, Nat.one_mul] at this
        exact this
      obtain ⟨c', h2, h3, h4⟩ := run_storeC E.P B' (j * t'.sz + 0) e fz v.cells.toList 0 c S.w hh (fun k _ hk => g6 k (by simp at hk; omega)) (by simp; omega) (cells_list ry (enc_solid t' y) (enc_one t' y))
      have hle : Le S { S with w := World.put S.w B' (.cells c' e fz) } := Le.put hh (fun o hF => by have := (g8 o hF).1; simp at this)
      refine ⟨{ S with w := World.put S.w B' (.cells c' e fz) }, ?_, hle, ?_⟩
      · unfold Instr.storeAt storeVar
        simp only [Instr.sureAddr, Sem.run_bind, Sem.run_pure, Result.andThen_ok, run_sizeT hz]
        rw [if_neg (by simp; omega)]
        exact h2
      · refine r.set (by rw [hb]; simp) hB hle ?_
        have hBlt := heap_lt hh
        refine ⟨by simpa using g1, g2, .inr ⟨B', c', e, fz, hB, by show (World.put S.w B' _).heap[B']? = _; rw [put_get _ _ _ _ hBlt, if_pos rfl], by simpa using g4, by rw [h3]; exact g5, g6, ?_, ?_⟩⟩
        · intro i x k q u hx hq hu
          have hk : k < t'.sz := by
            have := (List.getElem?_eq_some_iff.1 hq).1
            rw [enc_cells_length] at this
            exact this
          rw [h4] at hu
          simp only [Nat.add_zero, Array.length_toList, Array.getElem?_toList] at hu
          refine Rv.mono hle ?_
          rw [List.getElem?_set] at hx
          by_cases e1 : j = i
          · subst e1
            rw [if_pos rfl, if_pos hj] at hx
            cases hx
            rw [if_pos (by omega)] at hu
            have e2 : j * t'.sz + k - j * t'.sz = k := by omega
            rw [e2] at hu
            exact hc.2 k q u hq hu
          · rw [if_neg e1] at hx
            rw [if_neg] at hu
            · exact g7 i x k q u hx hq hu
            · intro hcon
              rcases Nat.lt_or_gt_of_ne e1 with h | h
              · have : (j + 1) * t'.sz ≤ i * t'.sz := Nat.mul_le_mul_right _ h
                rw [Nat.add_mul, Nat.one_mul] at this
                omega
              · have : (i + 1) * t'.sz ≤ j * t'.sz := Nat.mul_le_mul_right _ h
                rw [Nat.add_mul, Nat.one_mul] at this
                omega
        · intro o hF
          have := (g8 o hF).1
          simp at this
def Sit.frz (S : Sit) (b n : Nat) : Sit := { S with F := fun B o => S.F B o ∨ ((S.G b).blk = some B ∧ o < n) }
theorem Le.frz (S : Sit) (b n : Nat) : Le S (S.frz b n) := ⟨fun _ _ h => .inl h, fun _ _ _ _ h => h, fun _ _ => rfl, Nat.le_refl _⟩
theorem RH.frz (r : RH w0 A S hs) {b : Nat} {ro : Bool} {t : Ty} {xs : List t.den} (hb : hs.hp b = .row ro t xs) :
    RH w0 A (S.frz b (xs.length * t.sz)) { hs with hp := upd hs.hp b (.row true t xs) } := by
  have hd : hs.hp b ≠ .dead := by rw [hb]; simp
  have hbn : b < hs.hn := Nat.lt_of_not_le fun h => hd (r.dead b h)
  have live : ∀ x, upd hs.hp b (.row true t xs) x ≠ .dead → hs.hp x ≠ .dead := by
    intro x hx
    by_cases e : x = b
    · rw [e]; exact hd
    · rwa [upd_ne _ _ e] at hx
  exact {
    N := r.N
    dead := fun x (hx : hs.hn ≤ x) => by
      show upd hs.hp b _ x = .dead
      rw [upd_ne _ _ (by omega)]
      exact r.dead x hx
    blks := fun x => by
      show RB _ x (upd hs.hp b _ x)
      by_cases e : x = b
      · subst e
        rw [upd_self]
        obtain ⟨g1, g2, g3⟩ := r.block hb
        refine ⟨g1, g2, ?_⟩
        rcases g3 with g3 | ⟨B, c, e, fz, hB, hh, g4, g5, g6, g7, g8⟩
        · exact .inl g3
        · refine .inr ⟨B, c, e, fz, hB, hh, g4, g5, g6, fun i x j a v hx ha hv => (g7 i x j a v hx ha hv).mono (Le.frz S _ _), ?_⟩
          intro o hF
          rcases hF with hF | ⟨_, hF⟩
          · exact ⟨rfl, (g8 o hF).2⟩
          · exact ⟨rfl, hF⟩
      · rw [upd_ne _ _ e]
        refine RB.keep (Le.frz S _ _) rfl (fun _ _ _ => rfl) ?_ (r.blks x)
        intro C o hx hC hF
        rcases hF with hF | ⟨hF, _⟩
        · exact hF
        · exact absurd hF (r.inj x b C e hx hd hC)
    inj := fun x y C hne hx hy hC => r.inj x y C hne (live x hx) (live y hy) hC
    F := fun C o h => by
      rcases h with h | ⟨h, _⟩
      · exact r.F C o h
      · exact r.alive_lt hd h
    os := r.os
    tape := r.tape
    output := r.output
    size := r.size
    old := r.old
    own := fun x C hx hC => r.own x C (live x hx) hC
    fo := fun C o hF hC hA => by
      rcases hF with hF | ⟨hF, _⟩
      · exact r.fo C o hF hC hA
      · rcases r.own b C hd hF with h | h
        · exact absurd h hA
        · omega }
theorem frz_val (r : RH w0 A S hs) {b : Nat} {ro : Bool} {t : Ty} {xs : List t.den} {v : Value} (hb : hs.hp b = .row ro t xs) (rv : Rv S (.slr b) v) : Rv (S.frz b (xs.length * t.sz)) (.sl .any t xs) v := by
  rcases slr_val r hb rv with ⟨a, rfl, rfl, _⟩ | ⟨B, c, e, fz, rfl, _, hB, hh, g4, g5, g6, g7, g8⟩
  · cases a with
    | none => exact .slN _ _ (by simp)
    | some a => exact .slE _ _ _ _ (by simp)
  · have hle : xs.length * t.sz ≤ c.size := Nat.le_trans (Nat.mul_le_mul_right _ g4) g5
    refine .sl _ _ xs B 0 _ (fun k => c.getD k undef) g4 (by simp) (fun k hk => .inr ⟨hB, by omega⟩) ?_ ?_
    · intro k hk
      show S.w.cell? _ = _
      rw [Nat.zero_add, cell_at, hh]
      simp [Array.getD, show k < c.size by omega]
    · intro i x j q hx hq
      have hi : i < xs.length := (List.getElem?_eq_some_iff.1 hx).1
      have hj : j < t.sz := by
        have := (List.getElem?_eq_some_iff.1 hq).1
        rw [enc_cells_length] at this
        exact this
      have hk : i * t.sz + j < c.size := by
        have : (i + 1) * t.sz ≤ xs.length * t.sz := Nat.mul_le_mul_right _ (by omega)
        rw [Nat.add_mul, Nat.one_mul] at this
        omega
      have := g7 i x j q c[i * t.sz + j] hx hq (Array.getElem?_eq_getElem hk)
      simp only [Array.getD, hk, dif_pos]
      exact this.mono (Le.frz S _ _)
end
end Gm

namespace Gm
open Go
section
variable {E : Env} {S : Sit} {w0 : World} {A : Ow} {hs : HS}
theorem RH.kill (r : RH w0 A S hs) (b : Nat) : RH w0 A S { hs with hp := upd hs.hp b .dead } := by
  have live : ∀ x, upd hs.hp b .dead x ≠ .dead → hs.hp x ≠ .dead := by
    intro x hx
    by_cases e : x = b
    · rw [e, upd_self] at hx; exact absurd rfl hx
    · rwa [upd_ne _ _ e] at hx
  exact {
    N := r.N
    dead := fun x (hx : hs.hn ≤ x) => by
      show upd hs.hp b .dead x = .dead
      by_cases e : x = b
      · rw [e, upd_self]
      · rw [upd_ne _ _ e]; exact r.dead x hx
    blks := fun x => by
      show RB _ x (upd hs.hp b .dead x)
      by_cases e : x = b
      · rw [e, upd_self]; trivial
      · rw [upd_ne _ _ e]; exact r.blks x
    inj := fun x y C hne hx hy hC => r.inj x y C hne (live x hx) (live y hy) hC
    F := r.F, os := r.os, tape := r.tape, output := r.output, size := r.size, old := r.old
    own := fun x C hx hC => r.own x C (live x hx) hC
    fo := r.fo }
def Sit.adopt (S : Sit) (B : Nat) (o : Obj) (len cap esz : Nat) : Sit :=
  { w := World.put S.w B o, F := S.F, G := upd S.G S.N ⟨some B, len, cap, esz⟩, N := S.N + 1 }
theorem RH.adopt (r : RH w0 A S hs) {B : Nat} {o : Obj} {len cap esz : Nat} {k : Blk} (hlt : B < S.w.heap.size) (hfree : ∀ x, hs.hp x ≠ .dead → (S.G x).blk ≠ some B) (hown : A.own B ∨ w0.heap.size ≤ B)
    (hle : Le S (S.adopt B o len cap esz)) (hk : RB (S.adopt B o len cap esz) S.N k) : RH w0 A (S.adopt B o len cap esz) (hs.push k) := by
  have g0 : ((S.adopt B o len cap esz).G S.N).blk = some B := by show (upd S.G S.N _ S.N).blk = _; rw [upd_self]
  have g1 : ∀ x, x ≠ S.N → (S.adopt B o len cap esz).G x = S.G x := fun x hx => upd_ne _ _ hx
  have live : ∀ x, x ≠ S.N → upd hs.hp hs.hn k x ≠ .dead → hs.hp x ≠ .dead := by
    intro x hx h
    rwa [upd_ne _ _ (by rw [← r.N]; exact hx)] at h
  exact {
    N := by simp [Sit.adopt, HS.push, r.N]
    dead := fun b hb => by
      simp only [HS.push] at hb ⊢
      rw [upd_ne _ _ (by omega)]
      exact r.dead b (by omega)
    blks := fun b => by
      simp only [HS.push]
      by_cases e : b = S.N
      · subst e
        rw [r.N, upd_self, ← r.N]
        exact hk
      · rw [upd_ne _ _ (by rw [← r.N]; exact e)]
        refine RB.keep hle (g1 b e) ?_ (fun B o _ _ h => h) (r.blks b)
        intro C hd hC
        show (World.put S.w B o).heap[C]? = _
        rw [put_get _ _ _ _ hlt, if_neg]
        rintro rfl
        exact hfree b hd hC
    inj := fun b c C hne hb hc hB hC => by
      simp only [HS.push] at hb hc
      by_cases hbn : b = S.N
      · have hcn : c ≠ S.N := fun h => hne (hbn.trans h.symm)
        subst hbn
        rw [g0] at hB
        cases hB
        rw [g1 c hcn] at hC
        exact hfree c (live c hcn hc) hC
      · have hb' := live b hbn hb
        rw [g1 b hbn] at hB
        by_cases hcn : c = S.N
        · subst hcn
          rw [g0] at hC
          cases hC
          exact hfree b hb' hB
        · rw [g1 c hcn] at hC
          exact r.inj b c C hne hb' (live c hcn hc) hB hC
    F := fun C o h => by
      show C < (World.put S.w B _).heap.size
      rw [put_size]
      exact r.F C o h
    os := r.os
    tape := r.tape
    output := r.output
    size := by
      show _ ≤ (World.put S.w B _).heap.size
      rw [put_size]
      exact r.size
    old := fun C hC hA => by
      show (World.put S.w B _).heap[C]? = _
      rw [put_get _ _ _ _ hlt, if_neg]
      · exact r.old C hC hA
      · rintro rfl
        rcases hown with h | h
        · exact hA h
        · omega
    own := fun b C hb hB => by
      simp only [HS.push] at hb
      by_cases hbn : b = S.N
      · subst hbn
        rw [g0] at hB
        cases hB
        exact hown
      · rw [g1 b hbn] at hB
        exact r.own b C (live b hbn hb) hB
    fo := r.fo }
def Sit.bare (S : Sit) (esz : Nat) : Sit := { S with G := upd S.G S.N ⟨none, 0, 0, esz⟩, N := S.N + 1 }
theorem Le.bare (S : Sit) (esz : Nat) : Le S (S.bare esz) := ⟨fun _ _ h => h, fun _ _ _ _ h => h, fun _ hb => upd_ne _ _ (by omega), by simp [Sit.bare]⟩
theorem RH.bare (r : RH w0 A S hs) (ro : Bool) (t : Ty) : RH w0 A (S.bare t.sz) (hs.push (.row ro t [])) := by
  have g0 : (S.bare t.sz).G S.N = ⟨none, 0, 0, t.sz⟩ := upd_self _ _ _
  have g1 : ∀ x, x ≠ S.N → (S.bare t.sz).G x = S.G x := fun x hx => upd_ne _ _ hx
  have live : ∀ x, x ≠ S.N → upd hs.hp hs.hn (.row ro t []) x ≠ .dead → hs.hp x ≠ .dead := by
    intro x hx h
    rwa [upd_ne _ _ (by rw [← r.N]; exact hx)] at h
  exact {
    N := by simp [Sit.bare, HS.push, r.N]
    dead := fun b hb => by
      simp only [HS.push] at hb ⊢
      rw [upd_ne _ _ (by omega)]
      exact r.dead b (by omega)
    blks := fun b => by
      simp only [HS.push]
      by_cases e : b = S.N
      · subst e
        rw [r.N, upd_self, ← r.N]
        exact ⟨by rw [g0]; rfl, by rw [g0], .inl ⟨by rw [g0], rfl, by rw [g0]⟩⟩
      · rw [upd_ne _ _ (by rw [← r.N]; exact e)]
        exact RB.keep (Le.bare S t.sz) (g1 b e) (fun _ _ _ => rfl) (fun B o _ _ h => h) (r.blks b)
    inj := fun b c C hne hb hc hB hC => by
      simp only [HS.push] at hb hc
      have hbn : b ≠ S.N := by rintro rfl; rw [g0] at hB; cases hB
      have hcn : c ≠ S.N := by rintro rfl; rw [g0] at hC; cases hC
      rw [g1 b hbn] at hB
      rw [g1 c hcn] at hC
      exact r.inj b c C hne (live b hbn hb) (live c hcn hc) hB hC
    F := r.F
    os := r.os
    tape := r.tape
    output := r.output
    size := r.size
    old := r.old
    own := fun b C hb hB => by
      simp only [HS.push] at hb
      have hbn : b ≠ S.N := by rintro rfl; rw [g0] at hB; cases hB
      rw [g1 b hbn] at hB
      exact r.own b C (live b hbn hb) hB
    fo := r.fo }
theorem bare_slr (S : Sit) (esz : Nat) (a : Option Addr) : Rv (S.bare esz) (.slr S.N) (.slice a 0 0) := by
  have g0 : (S.bare esz).G S.N = ⟨none, 0, 0, esz⟩ := upd_self _ _ _
  exact .slrN _ _ (by simp [Sit.bare]) (by rw [g0]) (by rw [g0]) (by rw [g0])
theorem upd_same {α : Type} (f : Nat → α) (k : Nat) : upd f k (f k) = f := by
  funext n
  by_cases e : n = k
  · subst e; rw [upd_self]
  · rw [upd_ne _ _ e]
theorem roAll_ok : ∀ (bs : List Nat) (S : Sit) (hs : HS), RH w0 A S hs → ∃ T, Le S T ∧ T.w = S.w ∧ RH w0 A T { hs with hp := roAll bs hs.hp } ∧
    ∀ b, b ∈ bs → ∀ (ro : Bool) (t : Ty) (xs : List t.den) (v : Value), hs.hp b = .row ro t xs → Rv S (.slr b) v → Rv T (.sl .any t xs) v
  | [], S, hs, r => ⟨S, .refl S, rfl, r, fun b hb => by cases hb⟩
  | b :: bs, S, hs, r => by
    cases hb : hs.hp b with
    | row ro t xs =>
      have r1 := r.frz hb
      obtain ⟨T, h1, h2, h3, h4⟩ := roAll_ok bs _ _ r1
      refine ⟨T, (Le.frz S _ _).trans h1, h2, ?_, ?_⟩
      · simp only [roAll, hb, roB]
        exact h3
      · intro b' hb' ro' t' xs' v hr hv
        by_cases e : b' = b
        · subst e
          rw [hb] at hr
          cases hr
          exact (frz_val r hb hv).mono h1
        · rcases List.mem_cons.1 hb' with e' | hm
          · exact absurd e' e
          · refine h4 b' hm ro' t' xs' v ?_ (hv.mono (Le.frz S _ _))
            show upd hs.hp b _ b' = _
            rw [upd_ne _ _ e]
            exact hr
    | cells cs =>
      obtain ⟨T, h1, h2, h3, h4⟩ := roAll_ok bs S hs r
      refine ⟨T, h1, h2, ?_, ?_⟩
      · simp only [roAll, hb, roB]
        rw [← hb, upd_same]
        exact h3
      · intro b' hb' ro' t' xs' v hr hv
        rcases List.mem_cons.1 hb' with e' | hm
        · subst e'; rw [hb] at hr; cases hr
        · exact h4 b' hm ro' t' xs' v hr hv
    | dead =>
      obtain ⟨T, h1, h2, h3, h4⟩ := roAll_ok bs S hs r
      refine ⟨T, h1, h2, ?_, ?_⟩
      · simp only [roAll, hb, roB]
        rw [← hb, upd_same]
        exact h3
      · intro b' hb' ro' t' xs' v hr hv
        rcases List.mem_cons.1 hb' with e' | hm
        · subst e'; rw [hb] at hr; cases hr
        · exact h4 b' hm ro' t' xs' v hr hv
theorem frz0_ok {T : Sit} {bs : List Nat} (hle : Le S T) (h : ∀ b, b ∈ bs → ∀ (ro : Bool) (t : Ty) (xs : List t.den) (v : Value), hs.hp b = .row ro t xs → Rv S (.slr b) v → Rv T (.sl .any t xs) v)
    {a : AV} {v : Value} (hb : ∀ b, b ∈ slrs0 a → b ∈ bs) (hv : Rv S a v) : Rv T (frz0 hs.hp a) v := by
  unfold frz0
  split
  · rename_i b
    split
    · rename_i ro t xs hr
      exact h b (hb b (by simp [slrs0])) ro t xs v hr hv
    · exact .top _
  · exact hv.mono hle
theorem frz1_ok {T : Sit} {bs : List Nat} (hle : Le S T) (h : ∀ b, b ∈ bs → ∀ (ro : Bool) (t : Ty) (xs : List t.den) (v : Value), hs.hp b = .row ro t xs → Rv S (.slr b) v → Rv T (.sl .any t xs) v)
    {a : AV} {v : Value} (hb : ∀ b, b ∈ slrs1 a → b ∈ bs) (hv : Rv S a v) : Rv T (frz1 hs.hp a) v := by
  unfold frz1
  split
  · rename_i cs
    obtain ⟨vs, rfl, c1, c2⟩ := hv.agg_inv
    refine .agg _ _ (by simp [c1]) ?_
    intro i c u hc hu
    simp at hc
    obtain ⟨c', hc', rfl⟩ := hc
    refine frz0_ok hle h (fun b hb' => hb b ?_) (c2 i c' u hc' hu)
    simp only [slrs1, List.mem_flatMap]
    exact ⟨c', List.mem_of_getElem? hc', hb'⟩
  · rename_i hn
    refine frz0_ok hle h (fun b hb' => hb b ?_) hv
    unfold slrs1
    split
    · exact (hn _ rfl).elim
    · exact hb'
theorem frz_ok {T : Sit} {bs : List Nat} (hle : Le S T) (h : ∀ b, b ∈ bs → ∀ (ro : Bool) (t : Ty) (xs : List t.den) (v : Value), hs.hp b = .row ro t xs → Rv S (.slr b) v → Rv T (.sl .any t xs) v)
    {a : AV} {v : Value} (hb : ∀ b, b ∈ slrs a → b ∈ bs) (hv : Rv S a v) : Rv T (frz hs.hp a) v := by
  unfold frz
  split
  · rename_i cs
    obtain ⟨vs, rfl, c1, c2⟩ := hv.tup_inv
    refine .tup _ _ (by simp [c1]) ?_
    intro i c u hc hu
    simp at hc
    obtain ⟨c', hc', rfl⟩ := hc
    refine frz1_ok hle h (fun b hb' => hb b ?_) (c2 i c' u hc' hu)
    simp only [slrs, List.mem_flatMap]
    exact ⟨c', List.mem_of_getElem? hc', hb'⟩
  · rename_i hn
    refine frz1_ok hle h (fun b hb' => hb b ?_) hv
    unfold slrs
    split
    · exact (hn _ rfl).elim
    · exact hb'
theorem frz_list {T : Sit} {vs : List AV} {us : Array Value} (hle : Le S T) (h : ∀ b, b ∈ vs.flatMap slrs → ∀ (ro : Bool) (t : Ty) (xs : List t.den) (v : Value), hs.hp b = .row ro t xs → Rv S (.slr b) v → Rv T (.sl .any t xs) v)
    (hv : Cs S vs us) : Cs T (vs.map (frz hs.hp)) us := by
  refine ⟨by simp [hv.1], ?_⟩
  intro i c u hc hu
  simp at hc
  obtain ⟨c', hc', rfl⟩ := hc
  refine frz_ok hle h (fun b hb => ?_) (hv.2 i c' u hc' hu)
  rw [List.mem_flatMap]
  exact ⟨c', List.mem_of_getElem? hc', hb⟩
end
end Gm

namespace Gm
open Go
section
variable {E : Env} {S : Sit} {w0 : World} {A : Ow} {hs : HS}
def Rows (S : Sit) (t : Ty) (xs : List t.den) (cs : List Value) : Prop :=
  cs.length = xs.length * t.sz ∧ ∀ (i : Nat) x (j : Nat) a v, xs[i]? = some x → (enc t x).cells[j]? = some a → cs[i * t.sz + j]? = some v → Rv S a v
theorem Rows.one {t : Ty} {xs : List t.den} {cs : List Value} (h : Rows S t xs cs) : ∀ u ∈ cs, u.oneCell' = true := by
  intro u hu
  obtain ⟨k, hk, rfl⟩ := List.getElem_of_mem hu
  have h0 : 0 < t.sz := by
    rcases Nat.eq_zero_or_pos t.sz with e | e
    · have := h.1; rw [e] at this; simp at this; subst this; simp at hk
    · exact e
  have h1 : k / t.sz < xs.length := by
    rw [h.1] at hk
    exact Nat.div_lt_of_lt_mul (by rw [Nat.mul_comm]; exact hk)
  have h2 : k % t.sz < t.sz := Nat.mod_lt _ h0
  have h3 : k / t.sz * t.sz + k % t.sz = k := by rw [Nat.mul_comm]; exact Nat.div_add_mod k t.sz
  have hl := enc_cells_length t xs[k / t.sz]
  have h4 := h.2 (k / t.sz) xs[k / t.sz] (k % t.sz) (enc t xs[k / t.sz]).cells[k % t.sz] cs[k] (List.getElem?_eq_getElem h1) (List.getElem?_eq_getElem (by omega)) (by rw [h3]; exact List.getElem?_eq_getElem hk)
  exact oneC_ok (List.all_eq_true.1 (enc_one t _) _ (List.getElem_mem _)) h4
theorem src_ok {t : Ty} {src : AV} {sv : Value} {ys : List t.den} {x e' : TypeId} (r : RH w0 A S hs) (hx : E.P.underlying x = some (.slice e')) (h : srcL t hs.hp src = some ys) (rv : Rv S src sv) :
    ∃ news, Src E.P t.sz x sv ys.length news S.w ∧ Rows S t ys news := by
  have nil : ∀ a c, Src E.P t.sz x (.slice a 0 c) 0 [] S.w := by
    intro a c
    cases a with
    | none => exact Src.ofNil S.w hx c
    | some a => exact Src.ofSlice S.w hx a 0 c [] (by simp) (fun j u h => by simp at h) (fun u h => by cases h)
  have nilR : Rows S t [] [] := ⟨by simp, fun i x j a v h => by simp at h⟩
  unfold srcL at h
  split at h
  · cases h; cases rv
    exact ⟨[], nil _ _, nilR⟩
  · rename_i vs
    cases rv with
    | vl _ z B off val hz hz' hF hc hr =>
      obtain ⟨h1, h2⟩ := decs_spec h
      have hzt : ∀ i (hi : i < vs.length), z = t.sz := by
        intro i hi
        have hd := h2 i vs[i] (ys[i]'(by omega)) (List.getElem?_eq_getElem hi) (List.getElem?_eq_getElem (by omega))
        have h3 := weak_length (dec_weak hd)
        rw [enc_cells_length, hz vs[i] (List.getElem_mem hi)] at h3
        exact h3
      have hlen : vs.length * z = ys.length * t.sz := by
        cases vs with
        | nil => simp at h1; simp [← h1]
        | cons v vs => rw [hzt 0 (by simp), h1]
      have hR : Rows S t ys ((List.range (ys.length * t.sz)).map val) := by
        refine ⟨by simp, ?_⟩
        intro i y j a v hy ha hv
        have hi : i < ys.length := (List.getElem?_eq_some_iff.1 hy).1
        have hiv : i < vs.length := by omega
        have hd := h2 i vs[i] y (List.getElem?_eq_getElem hiv) hy
        have hw := dec_weak hd
        have hj : j < (enc t y).cells.length := (List.getElem?_eq_some_iff.1 ha).1
        have hj' : j < vs[i].cells.length := by rw [weak_length hw]; exact hj
        have hcw := weak_cells hw j vs[i].cells[j] a (List.getElem?_eq_getElem hj') ha
        have hk : i * t.sz + j < ys.length * t.sz := by
          rw [enc_cells_length] at hj
          have : (i + 1) * t.sz ≤ ys.length * t.sz := Nat.mul_le_mul_right _ hi
          rw [Nat.add_mul, Nat.one_mul] at this
          omega
        simp [List.getElem?_range hk] at hv
        subst hv
        have h5 := hr i vs[i] j vs[i].cells[j] (List.getElem?_eq_getElem hiv) (List.getElem?_eq_getElem hj')
        rw [hzt i hiv] at h5
        exact h5.weak hcw
      refine ⟨_, ?_, hR⟩
      rw [h1]
      refine Src.ofSlice S.w hx (at_ B off) ys.length ys.length _ (by simp) ?_ hR.one
      intro j u hu
      simp only [List.getElem?_map, Option.map_eq_some_iff] at hu
      obtain ⟨k, hk, rfl⟩ := hu
      have hk1 := (List.getElem?_eq_some_iff.1 hk).1
      simp at hk1
      rw [List.getElem?_range hk1] at hk
      cases hk
      rw [add_at]
      exact hc j (by omega)
  · rename_i f t' ys'
    split at h
    · rename_i e
      subst e
      cases h
      cases rv with
      | slN => exact ⟨[], nil _ _, nilR⟩
      | slE => exact ⟨[], nil _ _, nilR⟩
      | sl _ _ _ B off cap val c1 c2 hF hc hr =>
        have hR : Rows S t' ys' ((List.range (ys'.length * t'.sz)).map val) := by
          refine ⟨by simp, ?_⟩
          intro i y j a v hy ha hv
          have hi : i < ys'.length := (List.getElem?_eq_some_iff.1 hy).1
          have hj : j < (enc t' y).cells.length := (List.getElem?_eq_some_iff.1 ha).1
          have hk : i * t'.sz + j < ys'.length * t'.sz := by
            rw [enc_cells_length] at hj
            have : (i + 1) * t'.sz ≤ ys'.length * t'.sz := Nat.mul_le_mul_right _ hi
            rw [Nat.add_mul, Nat.one_mul] at this
            omega
          simp [List.getElem?_range hk] at hv
          subst hv
          exact hr i y j a hy ha
        refine ⟨_, ?_, hR⟩
        refine Src.ofSlice S.w hx (at_ B off) ys'.length cap _ (by simp) ?_ hR.one
        intro j u hu
        simp only [List.getElem?_map, Option.map_eq_some_iff] at hu
        obtain ⟨k, hk, rfl⟩ := hu
        have hk1 := (List.getElem?_eq_some_iff.1 hk).1
        simp at hk1
        rw [List.getElem?_range hk1] at hk
        cases hk
        rw [add_at]
        exact hc j (by omega)
    · cases h
  · rename_i b
    split at h
    · rename_i ro t' ys' hb
      split at h
      · rename_i e
        subst e
        cases h
        rcases slr_val r hb rv with ⟨a, rfl, rfl, _⟩ | ⟨B, c, e, fz, rfl, _, hB, hh, g4, g5, g6, g7, g8⟩
        · exact ⟨[], nil _ _, nilR⟩
        · have hle : ys'.length * t'.sz ≤ c.size := Nat.le_trans (Nat.mul_le_mul_right _ g4) g5
          have hR : Rows S t' ys' (c.toList.take (ys'.length * t'.sz)) := by
            refine ⟨by simp; omega, ?_⟩
            intro i y j a v hy ha hv
            rw [List.getElem?_take] at hv
            split at hv
            · rw [Array.getElem?_toList] at hv
              exact g7 i y j a v hy ha hv
            · cases hv
          refine ⟨_, ?_, hR⟩
          refine Src.ofSlice S.w hx (at_ B 0) ys'.length _ _ (by simp; omega) ?_ hR.one
          intro j u hu
          rw [List.getElem?_take] at hu
          split at hu
          · rw [add_at, Nat.zero_add, cell_at, hh]
            rw [Array.getElem?_toList] at hu
            exact hu
          · cases hu
      · cases h
    · cases h
  · cases h
theorem growBy_le (n : Nat) : ∀ (r c : Nat), 256 ≤ c → c ≤ 2 * n → Builtin.growBy n r c ≤ 2 * n
  | 0, c, _, h => h
  | r + 1, c, h1, h2 => by
    unfold Builtin.growBy
    split
    · exact h2
    · exact growBy_le n r _ (by omega) (by omega)
theorem next_le (n c : Nat) (h : c < n) : Builtin.nextslicecap n c ≤ 2 * n := by
  unfold Builtin.nextslicecap
  split
  · omega
  · split
    · omega
    · exact growBy_le n 4 c (by omega) (by omega)
theorem Rows.append {t : Ty} {xs ys : List t.den} {cs ds : List Value} (h : Rows S t xs cs) (k : Rows S t ys ds) : Rows S t (xs ++ ys) (cs ++ ds) := by
  refine ⟨by simp [h.1, k.1, Nat.add_mul], ?_⟩
  intro i x j a v hx ha hv
  have hj : j < t.sz := by
    have := (List.getElem?_eq_some_iff.1 ha).1
    rw [enc_cells_length] at this
    exact this
  by_cases hi : i < xs.length
  · rw [List.getElem?_append_left hi] at hx
    have hk : i * t.sz + j < cs.length := by
      rw [h.1]
      have : (i + 1) * t.sz ≤ xs.length * t.sz := Nat.mul_le_mul_right _ hi
      rw [Nat.add_mul, Nat.one_mul] at this
      omega
    rw [List.getElem?_append_left hk] at hv
    exact h.2 i x j a v hx ha hv
  · rw [List.getElem?_append_right (by omega)] at hx
    have hk : cs.length ≤ i * t.sz + j := by
      rw [h.1]
      have : xs.length * t.sz ≤ i * t.sz := Nat.mul_le_mul_right _ (by omega)
      omega
    rw [List.getElem?_append_right hk] at hv
    have e : i * t.sz + j - cs.length = (i - xs.length) * t.sz + j := by
      rw [h.1, Nat.sub_mul]
      have : xs.length * t.sz ≤ i * t.sz := Nat.mul_le_mul_right _ (by omega)
      omega
    rw [e] at hv
    exact k.2 (i - xs.length) x j a v hx ha hv
theorem RB.ro {T : Sit} {b : Nat} {t : Ty} {xs : List t.den} (ro : Bool) (h : RB T b (.row false t xs)) : RB T b (.row ro t xs) := by
  obtain ⟨g1, g2, g3⟩ := h
  refine ⟨g1, g2, ?_⟩
  rcases g3 with g3 | ⟨B, c, e, fz, hB, hh, g4, g5, g6, g7, g8⟩
  · exact .inl g3
  · exact .inr ⟨B, c, e, fz, hB, hh, g4, g5, g6, g7, fun o hF => by have := (g8 o hF).1; simp at this⟩
theorem grow_ok {t : Ty} {s x ty e : TypeId} {w : Nat} {base : Option Addr} {cap : Nat} {xs ys : List t.den} {olds news : List Value} {sv : Value} {K : AV → HS → Prop} (ro : Bool) (r : RH w0 A S hs)
    (hu : E.P.underlying s = some (.slice e)) (hz : szT E e = some t.sz) (hw : (E.P.info? e).map (·.bytes) = some (w + 1)) (hzc : ∃ z, zeroC E e = some z ∧ z.cells.length = t.sz ∧ z.solid = true) (hold : (Builtin.firstCells t.sz xs.length (.slice base xs.length cap)).run E.P S.w.drew = Result.ok olds.toArray S.w.drew)
    (hR : Rows S t xs olds) (hsrc : Src E.P t.sz x sv ys.length news S.w) (hR2 : Rows S t ys news) (hg : cap < xs.length + ys.length) (hroom : (xs.length + ys.length) * (w + 1) ≤ room)
    (hK : K (.slr hs.hn) (hs.push (.row ro t (xs ++ ys)))) :
    AnsV E.P w0 A S (Builtin.append_ #[s, x] ty #[.slice base xs.length cap, sv]) K := by
  obtain ⟨i, hi, hsz⟩ := info_of hz
  obtain ⟨z, hz1, hz2, hz3⟩ := hzc
  have hib : i.bytes = w + 1 := by rw [hi] at hw; simpa using hw
  have hzv : ∃ zv, i.zero = some zv ∧ zv.cells.size = t.sz := by
    unfold zeroC at hz1
    rw [hi] at hz1
    simp only [Option.bind_some, Option.map_eq_some_iff] at hz1
    obtain ⟨zv, h1, h2⟩ := hz1
    refine ⟨zv, h1, ?_⟩
    have := ((vAV_ok (S := S) zv).cells (by rw [h2]; exact hz3)).1
    rw [h2, hz2] at this
    exact this.symm
  obtain ⟨zv, hzv1, hzv2⟩ := hzv
  have hneed : xs.length + ys.length ≤ room := by
    have : (xs.length + ys.length) * 1 ≤ (xs.length + ys.length) * (w + 1) := Nat.mul_le_mul_left _ (by omega)
    omega
  have hrun := run_append_grow_src (P := E.P) S.w s x ty e i zv hu hi hzv1 base xs.length cap olds (by rw [hsz]; exact hold) sv ys.length news (by rw [hsz]; exact hsrc) hg
    (by unfold room at hneed; omega) (by
      have h1 := next_le (xs.length + ys.length) cap hg
      rw [hib]
      have h2 : Builtin.nextslicecap (xs.length + ys.length) cap * (w + 1) ≤ 2 * (xs.length + ys.length) * (w + 1) := Nat.mul_le_mul_right _ h1
      have h3 : 2 * (xs.length + ys.length) * (w + 1) = 2 * ((xs.length + ys.length) * (w + 1)) := by rw [Nat.mul_assoc]
      unfold room at hroom
      omega)
  have hR3 := hR.append hR2
  let cells := (olds ++ news).toArray ++ Builtin.zeroCells zv.cells (grownCap S.w (xs.length + ys.length) cap e - (xs.length + ys.length))
  have hcap : xs.length + ys.length ≤ grownCap S.w (xs.length + ys.length) cap e := by
    unfold grownCap
    exact Nat.le_add_right _ _
  have hsize : cells.size = grownCap S.w (xs.length + ys.length) cap e * t.sz := by
    have h1 := hR3.1
    simp only [List.length_append] at h1
    simp only [cells, Array.size_append, List.size_toArray, List.length_append, Builtin.zeroCells, Array.size_map, Array.size_range, hzv2]
    rw [h1, ← Nat.add_mul]
    congr 1
    omega
  refine ⟨.slice (some (at_ S.w.heap.size 0)) (xs ++ ys).length (grownCap S.w (xs.length + ys.length) cap e), .slr S.N, S.name (.cells cells e) (S.w.drawn + 1) (xs ++ ys).length (grownCap S.w (xs.length + ys.length) cap e) t.sz, hs.push (.row ro t (xs ++ ys)), ?_, Le.name _ _ _ _ _ _ r.F, r.name _ _ _ _ _ _ (RB.ro ro (row_new r (by simp; exact hcap) (by rw [hsize]; exact Nat.le_refl _) (fun o _ => by simp) ?_)), ?_, by rw [r.N]; exact hK⟩
  · rw [hrun]
    simp only [List.length_append]
    rfl
  · intro i x j a v hx ha hv
    refine hR3.2 i x j a v hx ha ?_
    have hlt : i * t.sz + j < (olds ++ news).length := by
      rw [hR3.1]
      have hi : i < (xs ++ ys).length := (List.getElem?_eq_some_iff.1 hx).1
      have hj := (List.getElem?_eq_some_iff.1 ha).1
      rw [enc_cells_length] at hj
      have : (i + 1) * t.sz ≤ (xs ++ ys).length * t.sz := Nat.mul_le_mul_right _ hi
      rw [Nat.add_mul, Nat.one_mul] at this
      omega
    simp only [cells] at hv
    rw [Array.getElem?_append_left (by simpa using hlt)] at hv
    simpa using hv
  · exact name_slr _ _ _ _ _ _
theorem litrow_ok {t : Ty} {ty e : TypeId} {n : Nat} {l : List AV} {xs : List t.den} {qs : List (Nat × Value)} {zc : AV} {K : AV → HS → Prop} (r : RH w0 A S hs)
    (hu : E.P.underlying ty = some (.slice e)) (hz : szT E e = some t.sz) (hzc : zeroC E e = some zc)
    (hn : l.length = n) (hb : n * t.sz ≤ 16777216) (hc : ∀ v ∈ l, v.cells.length = t.sz) (hs1 : ∀ v ∈ l, v.solid = true) (hl : (enumF 0 l).length = qs.length)
    (hp : ∀ (i : Nat) (p : Nat × AV) (q : Nat × Value), (enumF 0 l)[i]? = some p → qs[i]? = some q → p.1 = q.1 ∧ Rv S p.2 q.2) (hd : decs t l = some xs)
    (hK : K (.slr hs.hn) (hs.push (.row false t xs))) : AnsV E.P w0 A S (Instr.buildSlice ty n qs.toArray) K := by
  obtain ⟨us, hrun, h2⟩ := lit_run (S := S) hu hz hzc hn hb hc hs1 hl hp
  obtain ⟨d1, d2⟩ := decs_spec hd
  have hx : xs.length = n := by omega
  have hsz : us.size = n * t.sz := by rw [← h2.1, flatMap_length t.sz l hc, hn]
  subst hx
  refine ⟨.slice (some (at_ S.w.heap.size 0)) xs.length xs.length, .slr S.N, S.name (.cells us e) S.w.drawn xs.length xs.length t.sz, hs.push (.row false t xs), hrun, Le.name _ _ _ _ _ _ r.F, r.name _ _ _ _ _ _ (row_new r (Nat.le_refl _) (by rw [hsz]; exact Nat.le_refl _) (fun o _ => by simp) ?_), name_slr _ _ _ _ _ _, by rw [r.N]; exact hK⟩
  intro i y j a v hy ha hv
  have hi : i < xs.length := (List.getElem?_eq_some_iff.1 hy).1
  have hil : i < l.length := by omega
  have hw := dec_weak (d2 i l[i] y (List.getElem?_eq_getElem hil) hy)
  have hj : j < (enc t y).cells.length := (List.getElem?_eq_some_iff.1 ha).1
  have hj' : j < l[i].cells.length := by rw [weak_length hw]; exact hj
  have hcw := weak_cells hw j l[i].cells[j] a (List.getElem?_eq_getElem hj') ha
  rw [enc_cells_length] at hj
  have h5 : (l.flatMap AV.cells)[i * t.sz + j]? = some l[i].cells[j] := by
    rw [flatMap_get t.sz l i j l[i] hc (List.getElem?_eq_getElem hil) hj]
    exact List.getElem?_eq_getElem hj'
  exact (h2.2 _ _ v h5 hv).weak hcw
end
end Gm
