/- Operations that hang on their operands alone: one theorem for all. -/
import Derived.Test.YtbhgalddlkebgaaDoorGmL
namespace Gm
open Go

section
variable {E : Env} {S : Sit} {K : AV → Prop} {tab : Tab}

theorem field_ok {t : TypeId} {cs : List AV} {v : Value} {f : Nat} {fields : Array Field} {fd : Field} {r : AV} (hu : E.P.underlying t = some (.struct fields)) (hf : fields[f]? = some fd)
    (hp : partC E fd.type cs fd.offset = some r) (hv : Rv S (.agg cs) v) : Ans E.P S (Instr.field t v f) (fun x => x = r) := by
  obtain ⟨vs, rfl, c1, c2⟩ := hv.agg_inv
  obtain ⟨u, h1, h2⟩ := part_ok hp (by omega) c2
  exact Ans.here (v := u) (by simp [Instr.field, run_undT hu, hf, asAgg, h1]) h2 rfl

theorem fieldAddr_ok {s : TypeId} {a r : AV} {v : Value} {f : Nat} {fields : Array Field} {fd : Field} {n : Nat} (hu : E.P.underlying s = some (.struct fields)) (hf : fields[f]? = some fd)
    (hz : szT E fd.type = some (n + 1)) (hv : Rv S a v)
    (h : (∃ b o, a = .ptr b o ∧ r = .ptr b (o + fd.offset)) ∨ (∃ cs o, a = .fptr cs o ∧ r = .fptr cs (o + fd.offset)) ∨ (∃ b i o, a = .elt b i o ∧ r = .elt b i (o + fd.offset))) :
    Ans E.P S (Instr.fieldAt s v f) (fun x => x = r) := by
  have run : ∀ B o, (Instr.fieldAt s (.pointer (some (at_ B o))) f).run E.P S.w = Result.ok (.pointer (some (at_ B (o + fd.offset)))) S.w := by
    intro B o
    simp [Instr.fieldAt, run_undT hu, hf, Instr.sureAddr, fieldPlace, run_sizeT hz, add_at]
  rcases h with ⟨b, o, rfl, rfl⟩ | ⟨cs, o, rfl, rfl⟩ | ⟨b, i, o, rfl, rfl⟩
  · cases hv with
    | ptr _ _ B hb hB => exact Ans.here (run B o) (.ptr _ _ B hb hB) rfl
  · cases hv with
    | fptr _ _ B g val hF hc hr =>
      refine Ans.here (v := .pointer (some (at_ B (g + (o + fd.offset))))) ?_ (.fptr cs (o + fd.offset) B g val hF hc hr) rfl
      rw [run B (g + o), Nat.add_assoc]
  · cases hv with
    | elt _ _ _ B hb hi hB =>
      refine Ans.here (v := .pointer (some (at_ B (i * (S.G b).esz + (o + fd.offset))))) ?_ (.elt _ _ _ B hb hi hB) rfl
      rw [run, Nat.add_assoc]

theorem arr_index_ok {t e : TypeId} {n z m : Nat} {k : IntKind} {cs : List AV} {v : Value} {r : AV} (hu : E.P.underlying t = some (.array n e)) (hz : szT E e = some z) (hm : m < n)
    (hp : partC E e cs (m * z) = some r) (hv : Rv S (.agg cs) v) : Ans E.P S (Instr.index t v (.int k m)) (fun x => x = r) := by
  obtain ⟨vs, rfl, c1, c2⟩ := hv.agg_inv
  obtain ⟨u, h1, h2⟩ := part_ok hp (by omega) c2
  refine Ans.here (v := u) ?_ h2 rfl
  have h3 : (m : Int) < n := by omega
  simp [Instr.index, asIntOf, run_undT hu, run_sizeT hz, h1]
  omega

theorem str_index_ok {t : TypeId} {k : IntKind} {i : Int} {s : Str} {v : Value} {b : UInt8} (hu : E.P.underlying t = some .string) (h : getI s i = some b) (hv : Rv S (.str s) v) :
    Ans E.P S (Instr.index t v (.int k i)) (fun x => x = .int .u8 (b.toNat : Int)) := by
  obtain ⟨x, rfl, hx⟩ := hv.str_inv
  obtain ⟨h0, h1, h2⟩ := getI_some h
  refine Ans.here (v := .int .u8 (b.toNat : Int)) ?_ (.int _ _) rfl
  have h3 : x[i.toNat]? = some b := by
    have hs : x.size = s.length := by rw [← hx]; simp
    have hlt : i.toNat < x.size := by omega
    have e : x[i.toNat]? = some (x[i.toNat]'hlt) := by
      exact getElem?_pos x i.toNat hlt
    rw [e]
    congr 1
    subst hx
    have h4 : x.data[i.toNat]? = some b := by rw [← Array.getElem?_toList]; exact h2
    have h5 := (Array.getElem?_eq_some_iff.1 h4).2
    exact h5
  simp [Instr.index, asIntOf, run_undT hu, h0, h3]

theorem ORv.of {fr : Nat → AV} {ρ : Operand → Value} (hρ : ∀ x, Rv S (oval fr x) (ρ x)) (l : Option Operand) : ORv S (l.map (oval fr)) (l.map ρ) := by
  cases l with
  | none => exact .none
  | some x => exact .some _ _ (hρ x)

theorem optArg_map (fr : Nat → AV) (l : Option Operand) (r : List AV) : optArg l ((l.toList.map (oval fr)) ++ r) = (l.map (oval fr), r) := by
  cases l <;> rfl

theorem a0_pick (c a b : Operand) {dst : Option Nat} {type : TypeId} {pos : String} {after : Array Edge} {guard : Option (Nat × Bool)} {fr : Nat → AV} {ρ : Operand → Value} (hρ : ∀ x, Rv S (oval fr x) (ρ x))
    (h : a0 E tab ⟨dst, .pick c a b, type, pos, after, guard⟩ (valsOf ⟨dst, .pick c a b, type, pos, after, guard⟩ fr) K) : AnsN E.P S (execOp ρ ⟨dst, .pick c a b, type, pos, after, guard⟩) K := by
  have h : a0 E tab ⟨dst, .pick c a b, type, pos, after, guard⟩ [oval fr c, oval fr a, oval fr b] K := h
  have r := hρ c
  generalize oval fr c = vc at h r
  cases vc <;> first | exact h.elim | skip
  rename_i t
  have hc := r.bool_inv
  cases t with
  | true => exact .inl ⟨ρ a, _, S, by simp [execOp, hc, asBool], .refl S, hρ a, h⟩
  | false => exact .inl ⟨ρ b, _, S, by simp [execOp, hc, asBool], .refl S, hρ b, h⟩

theorem a0_build (t : TypeId) (parts : Array (Nat × Operand)) {dst : Option Nat} {type : TypeId} {pos : String} {after : Array Edge} {guard : Option (Nat × Bool)} {fr : Nat → AV} {ρ : Operand → Value} (hρ : ∀ x, Rv S (oval fr x) (ρ x))
    (h : a0 E tab ⟨dst, .build t parts, type, pos, after, guard⟩ (valsOf ⟨dst, .build t parts, type, pos, after, guard⟩ fr) K) : AnsN E.P S (execOp ρ ⟨dst, .build t parts, type, pos, after, guard⟩) K := by
  have h : (match buildC E t ((parts.toList.map (·.1)).zip ((parts.toList.map (·.2)).map (oval fr))) with | some v => K v | none => False) := by
    have := h
    simp only [a0, valsOf, Op.operands] at this
    exact this
  split at h
  · rename_i a ha
    have e : ((parts.toList.map (·.1)).zip ((parts.toList.map (·.2)).map (oval fr))) = parts.toList.map fun p => (p.1, oval fr p.2) := by
      rw [List.map_map, List.zip_map']; rfl
    rw [e] at ha
    obtain ⟨v, h1, h2⟩ := build_ok (qs := parts.toList.map fun p => (p.1, ρ p.2)) ha (by simp) (by
      intro i p q hp hq
      simp at hp hq
      obtain ⟨x, y, h1, rfl⟩ := hp
      obtain ⟨x', y', h2, rfl⟩ := hq
      rw [h1] at h2
      cases h2
      exact ⟨rfl, hρ _⟩)
    refine AnsN.of_ans (s := Instr.build t (parts.map fun (i, x) => (i, ρ x))) (Ans.here ?_ h2 h)
    have e2 : (parts.map fun (i, x) => (i, ρ x)) = (parts.toList.map fun p => (p.1, ρ p.2)).toArray := by
      apply Array.ext'
      simp
    rw [e2]
    exact h1 S.w
  · exact h.elim

theorem a0_buildSlice (t : TypeId) (n : Nat) (parts : Array (Nat × Operand)) {dst : Option Nat} {type : TypeId} {pos : String} {after : Array Edge} {guard : Option (Nat × Bool)} {fr : Nat → AV} {ρ : Operand → Value} (hρ : ∀ x, Rv S (oval fr x) (ρ x))
    (h : a0 E tab ⟨dst, .buildSlice t n parts, type, pos, after, guard⟩ (valsOf ⟨dst, .buildSlice t n parts, type, pos, after, guard⟩ fr) K) : AnsN E.P S (execOp ρ ⟨dst, .buildSlice t n parts, type, pos, after, guard⟩) K := by
  have h : a0 E tab ⟨dst, .buildSlice t n parts, type, pos, after, guard⟩ ((parts.toList.map (·.2)).map (oval fr)) K := by
    have := h
    simpa [valsOf, Op.operands] using this
  have e : ((parts.toList.map (·.1)).zip ((parts.toList.map (·.2)).map (oval fr))) = parts.toList.map fun p => (p.1, oval fr p.2) := by
    rw [List.map_map, List.zip_map']; rfl
  simp only [a0, e] at h
  split at h
  · rename_i el hel
    split at h
    · rename_i z l hz hl
      split at h
      · rename_i zc hzc
        split at h
        · rename_i hb
          simp only [Bool.and_eq_true, Nat.beq_eq, Nat.ble_eq, List.all_eq_true] at hb
          obtain ⟨hb1, hb2, hb3⟩ := hb
          obtain ⟨hl1, hl2⟩ := litC_spec hl
          have hu : E.P.underlying t = some (.slice el) := by
            unfold elemT at hel
            split at hel
            · cases hel; assumption
            · cases hel
          have key := lit_ok (S := S) (n := n) (qs := parts.toList.map fun p => (p.1, ρ p.2)) hu hz hzc hb1 hb2 hb3 hl2 (by rw [← hl1]; simp) (by
            intro i p q hp hq
            rw [← hl1] at hp
            simp at hp hq
            obtain ⟨x, y, h1, rfl⟩ := hp
            obtain ⟨x', y', h2, rfl⟩ := hq
            rw [h1] at h2
            cases h2
            exact ⟨rfl, hρ _⟩)
          have e2 : (parts.map fun (i, x) => (i, ρ x)) = (parts.toList.map fun p => (p.1, ρ p.2)).toArray := by
            apply Array.ext'
            simp
          have e0 : execOp ρ ⟨dst, .buildSlice t n parts, type, pos, after, guard⟩ = (do pure (.value (← Instr.buildSlice t n (parts.toList.map fun p => (p.1, ρ p.2)).toArray)) : Sem Next) := by
            rw [← e2]; rfl
          have k2 : Ans E.P S (Instr.buildSlice t n (parts.toList.map fun p => (p.1, ρ p.2)).toArray) K := key.imp (by rintro a rfl; exact h)
          rw [e0]
          exact AnsN.of_ans k2
        · exact h.elim
      · exact h.elim
    · exact h.elim
  · exact h.elim

theorem a0_load (t : TypeId) (a : Operand) {dst : Option Nat} {type : TypeId} {pos : String} {after : Array Edge} {guard : Option (Nat × Bool)} {fr : Nat → AV} {ρ : Operand → Value} (hρ : ∀ x, Rv S (oval fr x) (ρ x))
    (h : a0 E tab ⟨dst, .load t a, type, pos, after, guard⟩ (valsOf ⟨dst, .load t a, type, pos, after, guard⟩ fr) K) : AnsN E.P S (execOp ρ ⟨dst, .load t a, type, pos, after, guard⟩) K := by
  have h : a0 E tab ⟨dst, .load t a, type, pos, after, guard⟩ [oval fr a] K := h
  have r := hρ a
  generalize oval fr a = va at h r
  cases va <;> first | exact h.elim | skip
  rename_i cs i
  simp only [a0] at h
  split at h
  · rename_i x hx
    refine AnsN.of_ans (s := Instr.loadAt t (ρ a)) ?_
    generalize ρ a = v at r
    cases r with
    | fptr _ _ B f val hF hc hr =>
      obtain ⟨v, h1, h2⟩ := load_ok val hx hc hr
      exact Ans.here (by simp [Instr.loadAt, Instr.sureAddr, h1]) h2 h
  · exact h.elim

theorem a0_nilCheck (x : Operand) {dst : Option Nat} {type : TypeId} {pos : String} {after : Array Edge} {guard : Option (Nat × Bool)} {fr : Nat → AV} {ρ : Operand → Value} (hρ : ∀ x, Rv S (oval fr x) (ρ x))
    (h : a0 E tab ⟨dst, .nilCheck x, type, pos, after, guard⟩ (valsOf ⟨dst, .nilCheck x, type, pos, after, guard⟩ fr) K) : AnsN E.P S (execOp ρ ⟨dst, .nilCheck x, type, pos, after, guard⟩) K := by
  have h : a0 E tab ⟨dst, .nilCheck x, type, pos, after, guard⟩ [oval fr x] K := h
  have r := hρ x
  simp only [a0] at h
  split at h
  · rename_i hn
    have key : ∀ v, Rv S (oval fr x) v → v = ρ x → AnsN E.P S (execOp ρ ⟨dst, .nilCheck x, type, pos, after, guard⟩) K := by
      intro v r' hv
      refine .inl ⟨v, _, S, ?_, .refl S, r', h⟩
      simp only [execOp, ← hv]
      generalize oval fr x = a at hn r'
      cases r' <;> first | rfl | (simp [AV.nonNil] at hn)
    exact key _ r rfl
  · exact h.elim

theorem nil_ok {op : BinOp} {t : TypeId} {x y : Operand} (h : anil E op t K) (hk : (isK x || isK y) = true) : Ans E.P S (do eqGuard op t x y .nilIface .nilIface; binOp op t .nilIface .nilIface) K := by
  have g : ∀ o : BinOp, (eqGuard o t x y .nilIface .nilIface).run E.P S.w = Result.ok () S.w := by
    intro o
    unfold eqGuard
    cases x <;> cases y <;> first | (simp [isK] at hk; done) | (cases o <;> rfl)
  have e1 : ∀ ms, E.P.underlying t = some (.interface ms) → (Op.equal t .nilIface .nilIface).run E.P S.w = Result.ok true S.w := by
    intro ms hu
    show (Op.equalIn Op.maxDepth t .nilIface .nilIface).run E.P S.w = _
    obtain ⟨m, hm⟩ : ∃ m, Op.maxDepth = m + 1 := ⟨Op.maxDepth - 1, by unfold Op.maxDepth; omega⟩
    rw [hm]
    simp only [Op.equalIn, Sem.run_bind, run_undT hu, Result.andThen_ok, Sem.run_pure]
  unfold anil at h
  split at h
  · rename_i ms hu
    refine Ans.here (v := .bool true) ?_ (.bool _) h
    simp [g, binOp, e1 ms hu]
  · rename_i ms hu
    refine Ans.here (v := .bool false) ?_ (.bool _) h
    simp [g, binOp, e1 ms hu]
  · exact h.elim

theorem a0_binOp (op : BinOp) (t : TypeId) (x y : Operand) (u : TypeId) {dst : Option Nat} {type : TypeId} {pos : String} {after : Array Edge} {guard : Option (Nat × Bool)} {fr : Nat → AV} {ρ : Operand → Value} (hρ : ∀ x, Rv S (oval fr x) (ρ x))
    (h : a0 E tab ⟨dst, .binOp op t x y u, type, pos, after, guard⟩ (valsOf ⟨dst, .binOp op t x y u, type, pos, after, guard⟩ fr) K) : AnsN E.P S (execOp ρ ⟨dst, .binOp op t x y u, type, pos, after, guard⟩) K := by
  have h : (bif nil2 (oval fr x) (oval fr y) && (isK x || isK y) then anil E op t K else abin E op t (oval fr x) (oval fr y) K) := h
  refine AnsN.of_ans (s := do eqGuard op t x y (ρ x) (ρ y); binOp op t (ρ x) (ρ y)) ?_
  cases hb : (nil2 (oval fr x) (oval fr y) && (isK x || isK y)) with
  | false => rw [hb] at h; exact bin_ok h (hρ x) (hρ y)
  | true =>
    rw [hb] at h
    rw [Bool.and_eq_true] at hb
    obtain ⟨hb1, hb2⟩ := hb
    have rx := hρ x
    have ry := hρ y
    obtain ⟨ex, ey⟩ : oval fr x = .nili ∧ oval fr y = .nili := by
      unfold nil2 at hb1
      split at hb1
      · rename_i e1 e2; exact ⟨e1, e2⟩
      · cases hb1
    rw [ex] at rx
    rw [ey] at ry
    have nv : ∀ v, Rv S .nili v → v = .nilIface := fun v r => by cases r; rfl
    have vx := nv _ rx
    have vy := nv _ ry
    rw [vx, vy]
    exact nil_ok h hb2

theorem a0_unOp (op : UnOp) (t : TypeId) (x : Operand) {dst : Option Nat} {type : TypeId} {pos : String} {after : Array Edge} {guard : Option (Nat × Bool)} {fr : Nat → AV} {ρ : Operand → Value} (hρ : ∀ x, Rv S (oval fr x) (ρ x))
    (h : a0 E tab ⟨dst, .unOp op t x, type, pos, after, guard⟩ (valsOf ⟨dst, .unOp op t x, type, pos, after, guard⟩ fr) K) : AnsN E.P S (execOp ρ ⟨dst, .unOp op t x, type, pos, after, guard⟩) K := by
  have h : (match aun op (oval fr x) with | some v => K v | none => False) := h
  split at h
  · rename_i v hv
    exact AnsN.of_ans (s := Op.unary op (ρ x)) ((un_ok hv (hρ x)).imp (by rintro a rfl; exact h))
  · exact h.elim

theorem a0_convert (s d : TypeId) (x : Operand) {dst : Option Nat} {type : TypeId} {pos : String} {after : Array Edge} {guard : Option (Nat × Bool)} {fr : Nat → AV} {ρ : Operand → Value} (hρ : ∀ x, Rv S (oval fr x) (ρ x))
    (h : a0 E tab ⟨dst, .convert s d x, type, pos, after, guard⟩ (valsOf ⟨dst, .convert s d x, type, pos, after, guard⟩ fr) K) : AnsN E.P S (execOp ρ ⟨dst, .convert s d x, type, pos, after, guard⟩) K := by
  have h : (match aconv E s d (oval fr x) with | some v => K v | none => False) := h
  split at h
  · rename_i v hv
    exact AnsN.of_ans (s := convert s d (ρ x)) ((conv_ok hv (hρ x)).imp (by rintro a rfl; exact h))
  · exact h.elim

theorem a0_makeInterface (t : TypeId) (x : Operand) {dst : Option Nat} {type : TypeId} {pos : String} {after : Array Edge} {guard : Option (Nat × Bool)} {fr : Nat → AV} {ρ : Operand → Value} (hρ : ∀ x, Rv S (oval fr x) (ρ x))
    (h : a0 E tab ⟨dst, .makeInterface t x, type, pos, after, guard⟩ (valsOf ⟨dst, .makeInterface t x, type, pos, after, guard⟩ fr) K) : AnsN E.P S (execOp ρ ⟨dst, .makeInterface t x, type, pos, after, guard⟩) K := by
  have h : a0 E tab ⟨dst, .makeInterface t x, type, pos, after, guard⟩ [oval fr x] K := h
  simp only [a0] at h
  split at h
  · exact h.elim
  · rename_i d hni hd
    split at h
    · refine AnsN.of_ans (s := Instr.makeInterface t (ρ x)) (Ans.here (v := .iface t (ρ x)) ?_ (.iface _ _ _ (hρ x)) h)
      unfold Instr.makeInterface
      simp only [Sem.run_bind, run_undT hd, Result.andThen_ok]
      cases d <;> first | rfl | (exact (hni _ hd).elim)
    · exact h.elim
  · exact h.elim

theorem a0_makeFunc (fn : Fn) (first captured : Array Operand) {dst : Option Nat} {type : TypeId} {pos : String} {after : Array Edge} {guard : Option (Nat × Bool)} {fr : Nat → AV} {ρ : Operand → Value} (hρ : ∀ x, Rv S (oval fr x) (ρ x))
    (h : a0 E tab ⟨dst, .makeFunc fn first captured, type, pos, after, guard⟩ (valsOf ⟨dst, .makeFunc fn first captured, type, pos, after, guard⟩ fr) K) : AnsN E.P S (execOp ρ ⟨dst, .makeFunc fn first captured, type, pos, after, guard⟩) K := by
  have h : a0 E tab ⟨dst, .makeFunc fn first captured, type, pos, after, guard⟩ ((first.toList ++ captured.toList).map (oval fr)) K := by
    have := h
    simpa [valsOf, Op.operands] using this
  obtain ⟨f, rfl⟩ : ∃ f, fn = .func f := by
    cases fn with
    | func f => exact ⟨f, rfl⟩
    | _ => exact h.elim
  simp only [a0] at h
  refine AnsN.of_ans (s := Instr.makeFunc (.func f) (first.map ρ) (captured.map ρ)) (Ans.here (v := .func (.func f) (first.map ρ) (captured.map ρ)) rfl ?_ h)
  have e1 : ((first.toList ++ captured.toList).map (oval fr)).take first.size = first.toList.map (oval fr) := by simp
  have e2 : ((first.toList ++ captured.toList).map (oval fr)).drop first.size = captured.toList.map (oval fr) := by simp
  rw [e1, e2]
  exact .func _ _ _ _ _ (Cs.map hρ first).1 (Cs.map hρ captured).1 (Cs.map hρ first).2 (Cs.map hρ captured).2

theorem a0_slice (t : TypeId) (x : Operand) (l hh m : Option Operand) {dst : Option Nat} {type : TypeId} {pos : String} {after : Array Edge} {guard : Option (Nat × Bool)} {fr : Nat → AV} {ρ : Operand → Value} (hρ : ∀ x, Rv S (oval fr x) (ρ x))
    (h : a0 E tab ⟨dst, .slice t x l hh m, type, pos, after, guard⟩ (valsOf ⟨dst, .slice t x l hh m, type, pos, after, guard⟩ fr) K) : AnsN E.P S (execOp ρ ⟨dst, .slice t x l hh m, type, pos, after, guard⟩) K := by
  have h : aslice E t (oval fr x) (l.map (oval fr)) (hh.map (oval fr)) (m.map (oval fr)) K := by
    have e : valsOf ⟨dst, .slice t x l hh m, type, pos, after, guard⟩ fr = oval fr x :: (l.toList.map (oval fr) ++ (hh.toList.map (oval fr) ++ (m.toList.map (oval fr) ++ []))) := by
      cases l <;> cases hh <;> cases m <;> rfl
    rw [e] at h
    have h : (let (l', r) := optArg l (l.toList.map (oval fr) ++ (hh.toList.map (oval fr) ++ (m.toList.map (oval fr) ++ [])))
      let (h', r) := optArg hh r
      let (m', _) := optArg m r
      aslice E t (oval fr x) l' h' m' K) := h
    simpa only [optArg_map] using h
  exact AnsN.of_ans (s := Instr.sliceAt t (ρ x) (l.map ρ) (hh.map ρ) (m.map ρ)) (slice_ok h (hρ x) (.of hρ l) (.of hρ hh) (.of hρ m))

theorem a0_fieldAddr (s : TypeId) (x : Operand) (f : Nat) {dst : Option Nat} {type : TypeId} {pos : String} {after : Array Edge} {guard : Option (Nat × Bool)} {fr : Nat → AV} {ρ : Operand → Value} (hρ : ∀ x, Rv S (oval fr x) (ρ x))
    (h : a0 E tab ⟨dst, .fieldAddr s x f, type, pos, after, guard⟩ (valsOf ⟨dst, .fieldAddr s x f, type, pos, after, guard⟩ fr) K) : AnsN E.P S (execOp ρ ⟨dst, .fieldAddr s x f, type, pos, after, guard⟩) K := by
  have h : a0 E tab ⟨dst, .fieldAddr s x f, type, pos, after, guard⟩ [oval fr x] K := h
  simp only [a0] at h
  split at h
  · rename_i fields hu
    split at h
    · rename_i fd hf
      split at h
      · rename_i n hz
        refine AnsN.of_ans (s := Instr.fieldAt s (ρ x) f) ?_
        split at h
        · rename_i b o e
          exact (fieldAddr_ok hu hf hz (hρ x) (.inl ⟨b, o, e, rfl⟩)).imp (by rintro a rfl; exact h)
        · rename_i cs o e
          exact (fieldAddr_ok hu hf hz (hρ x) (.inr (.inl ⟨cs, o, e, rfl⟩))).imp (by rintro a rfl; exact h)
        · rename_i b i o e
          exact (fieldAddr_ok hu hf hz (hρ x) (.inr (.inr ⟨b, i, o, e, rfl⟩))).imp (by rintro a rfl; exact h)
        · exact h.elim
      · exact h.elim
    · exact h.elim
  · exact h.elim

theorem a0_field (t : TypeId) (x : Operand) (f : Nat) {dst : Option Nat} {type : TypeId} {pos : String} {after : Array Edge} {guard : Option (Nat × Bool)} {fr : Nat → AV} {ρ : Operand → Value} (hρ : ∀ x, Rv S (oval fr x) (ρ x))
    (h : a0 E tab ⟨dst, .field t x f, type, pos, after, guard⟩ (valsOf ⟨dst, .field t x f, type, pos, after, guard⟩ fr) K) : AnsN E.P S (execOp ρ ⟨dst, .field t x f, type, pos, after, guard⟩) K := by
  have h : a0 E tab ⟨dst, .field t x f, type, pos, after, guard⟩ [oval fr x] K := h
  have r := hρ x
  generalize oval fr x = vx at h r
  cases vx <;> first | exact h.elim | skip
  rename_i cs
  simp only [a0] at h
  split at h
  · rename_i fields hu
    split at h
    · rename_i fd hf
      split at h
      · rename_i v hv
        exact AnsN.of_ans (s := Instr.field t (ρ x) f) ((field_ok hu hf hv r).imp (by rintro a rfl; exact h))
      · exact h.elim
    · exact h.elim
  · exact h.elim

theorem a0_indexAddr (t : TypeId) (x i : Operand) {dst : Option Nat} {type : TypeId} {pos : String} {after : Array Edge} {guard : Option (Nat × Bool)} {fr : Nat → AV} {ρ : Operand → Value} (hρ : ∀ x, Rv S (oval fr x) (ρ x))
    (h : a0 E tab ⟨dst, .indexAddr t x i, type, pos, after, guard⟩ (valsOf ⟨dst, .indexAddr t x i, type, pos, after, guard⟩ fr) K) : AnsN E.P S (execOp ρ ⟨dst, .indexAddr t x i, type, pos, after, guard⟩) K := by
  have h : a0 E tab ⟨dst, .indexAddr t x i, type, pos, after, guard⟩ [oval fr x, oval fr i] K := h
  have r := hρ i
  generalize hvi : oval fr i = vi at h r
  cases vi <;> first | exact h.elim | skip
  have e := r.int_inv
  refine AnsN.of_ans (s := Instr.indexAt t (ρ x) (ρ i)) ?_
  rw [e]
  exact index_ok rfl h (hρ x)

theorem a0_index (t : TypeId) (x i : Operand) {dst : Option Nat} {type : TypeId} {pos : String} {after : Array Edge} {guard : Option (Nat × Bool)} {fr : Nat → AV} {ρ : Operand → Value} (hρ : ∀ x, Rv S (oval fr x) (ρ x))
    (h : a0 E tab ⟨dst, .index t x i, type, pos, after, guard⟩ (valsOf ⟨dst, .index t x i, type, pos, after, guard⟩ fr) K) : AnsN E.P S (execOp ρ ⟨dst, .index t x i, type, pos, after, guard⟩) K := by
  have h : a0 E tab ⟨dst, .index t x i, type, pos, after, guard⟩ [oval fr x, oval fr i] K := h
  have r := hρ i
  generalize hvi : oval fr i = vi at h r
  cases vi <;> first | exact h.elim | skip
  rename_i k n
  have e := r.int_inv
  refine AnsN.of_ans (s := Instr.index t (ρ x) (ρ i)) ?_
  rw [e]
  have rx := hρ x
  simp only [a0] at h
  split at h
  · rename_i s hu hx
    rw [hx] at rx
    split at h
    · rename_i b hb
      exact (str_index_ok hu hb rx).imp (by rintro a rfl; exact h)
    · exact h.elim
  · rename_i len el cs hu hx
    rw [hx] at rx
    split at h
    · rename_i z hz
      obtain ⟨m, h1, h2, rfl, h3⟩ := caseN_some h
      split at h3
      · rename_i v hv
        exact (arr_index_ok hu hz (by omega) hv rx).imp (by rintro a rfl; exact h3)
      · exact h3.elim
    · exact h.elim
  · exact h.elim

theorem a0_extract (x : Operand) (i : Nat) {dst : Option Nat} {type : TypeId} {pos : String} {after : Array Edge} {guard : Option (Nat × Bool)} {fr : Nat → AV} {ρ : Operand → Value} (hρ : ∀ x, Rv S (oval fr x) (ρ x))
    (h : a0 E tab ⟨dst, .extract x i, type, pos, after, guard⟩ (valsOf ⟨dst, .extract x i, type, pos, after, guard⟩ fr) K) : AnsN E.P S (execOp ρ ⟨dst, .extract x i, type, pos, after, guard⟩) K := by
  have h : a0 E tab ⟨dst, .extract x i, type, pos, after, guard⟩ [oval fr x] K := h
  have r := hρ x
  generalize oval fr x = vx at h r
  cases vx <;> first | exact h.elim | skip
  rename_i cs
  simp only [a0] at h
  split at h
  · rename_i a ha
    obtain ⟨vs, e, c1, c2⟩ := r.tup_inv
    have hi : i < vs.size := by have := (List.getElem?_eq_some_iff.1 ha).1; omega
    have hv : vs[i]? = some vs[i] := Array.getElem?_eq_getElem hi
    refine AnsN.of_ans (s := Instr.extract (ρ x) i) (Ans.here (v := vs[i]) ?_ (c2 i a vs[i] ha hv) h)
    rw [e]
    simp [Instr.extract, hv]
  · exact h.elim

theorem a0_call (c : Call) {dst : Option Nat} {type : TypeId} {pos : String} {after : Array Edge} {guard : Option (Nat × Bool)} {fr : Nat → AV} {ρ : Operand → Value} (hρ : ∀ x, Rv S (oval fr x) (ρ x)) {Q : Sit → Prop} (hF : Q S) (hT : TabQ E.P Q tab)
    (h : a0 E tab ⟨dst, .call c, type, pos, after, guard⟩ (valsOf ⟨dst, .call c, type, pos, after, guard⟩ fr) K) : AnsN E.P S (execOp ρ ⟨dst, .call c, type, pos, after, guard⟩) K := by
  obtain ⟨callee, args, argTypes⟩ := c
  cases callee with
  | value x =>
    have h : a0 E tab ⟨dst, .call ⟨.value x, args, argTypes⟩, type, pos, after, guard⟩ (oval fr x :: args.toList.map (oval fr)) K := by
      have := h
      simpa [valsOf, Op.operands, Call.operands] using this
    generalize hvx : oval fr x = vx at h
    cases vx <;> first | exact h.elim | skip
    rename_i f a b
    simp only [a0] at h
    split at h
    · rename_i en hen
      obtain ⟨ps, qs, e1, e2⟩ := callArgs (S := S) hρ (xs := args) hvx
      obtain ⟨hc, hs⟩ := hT f en hen
      refine .inr ⟨f, ps ++ args.map ρ ++ qs, ?_, hs _ K h S _ hF e2⟩
      have := run_callValue (P := E.P) (c := ⟨.value x, args, argTypes⟩) (ty := type) S.w rfl e1
      rw [show execOp ρ ⟨dst, .call ⟨.value x, args, argTypes⟩, type, pos, after, guard⟩ = (do let d ← resolve ρ ⟨.value x, args, argTypes⟩ type; invoke d.target d.args) from rfl, this]
      exact hc _ _
    · exact h.elim
  | builtin b =>
    have h : abuiltin E b argTypes.toList (args.toList.map (oval fr)) K := by
      have := h
      simpa [a0, valsOf, Op.operands, Call.operands] using this
    have := run_callBuiltin (P := E.P) (ρ := ρ) (c := ⟨.builtin b, args, argTypes⟩) (b := b) (ty := type)
    have key := builtin_ok (argTypes := argTypes) (ty := type) (consts := args.map fun | .const _ => true | _ => false) rfl h (Cs.map hρ args)
    unfold AnsN at key ⊢
    rw [show execOp ρ ⟨dst, .call ⟨.builtin b, args, argTypes⟩, type, pos, after, guard⟩ = (do let d ← resolve ρ ⟨.builtin b, args, argTypes⟩ type; invoke d.target d.args) from rfl]
    simp only [this S.w rfl]
    exact key
  | invoke r m => exact (by have := h; simp [a0] at this)

theorem a0_sound {o : Oper} {fr : Nat → AV} {ρ : Operand → Value} (hρ : ∀ x, Rv S (oval fr x) (ρ x)) {Q : Sit → Prop} (hF : Q S) (hT : TabQ E.P Q tab)
    (h : a0 E tab o (valsOf o fr) K) : AnsN E.P S (execOp ρ o) K := by
  obtain ⟨dst, op, type, pos, after, guard⟩ := o
  cases op with
  | move x => exact .inl ⟨ρ x, _, S, rfl, .refl S, hρ x, h⟩
  | assign x => exact .inl ⟨ρ x, _, S, rfl, .refl S, hρ x, h⟩
  | pick c a b => exact a0_pick c a b hρ h
  | build t parts => exact a0_build t parts hρ h
  | buildSlice t n parts => exact a0_buildSlice t n parts hρ h
  | load t a => exact a0_load t a hρ h
  | nilCheck x => exact a0_nilCheck x hρ h
  | binOp op t x y u => exact a0_binOp op t x y u hρ h
  | unOp op t x => exact a0_unOp op t x hρ h
  | convert s d x => exact a0_convert s d x hρ h
  | makeInterface t x => exact a0_makeInterface t x hρ h
  | makeFunc fn first captured => exact a0_makeFunc fn first captured hρ h
  | slice t x l hh m => exact a0_slice t x l hh m hρ h
  | fieldAddr s x f => exact a0_fieldAddr s x f hρ h
  | field t x f => exact a0_field t x f hρ h
  | indexAddr t x i => exact a0_indexAddr t x i hρ h
  | index t x i => exact a0_index t x i hρ h
  | extract x i => exact a0_extract x i hρ h
  | call c => exact a0_call c hρ hF hT h
  | _ => exact (by have := h; simp [a0] at this)

end
end Gm
