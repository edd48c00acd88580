/- The facts on strings.Repeat's text and types at this dump, printed by the shelf's tool lay-plain. -/
import Derived.Shelf.Strings.Repeat
import Derived.Ground.NamesProg
import Derived.Test.YtbhgalddlkebgaaProg
import Derived.Test.YtbhgalddlkebgaaGmRi2
namespace Go.Proofs
open Go.Shelf
def Try.laysRepeat_ren : Go.Shelf.Ren := ⟨fun | 105 => 117 | 212 => 130 | 99 => 131 | 165 => 132 | 166 => 133 | 170 => 134 | 169 => 135 | 263 => 142 | 264 => 143 | 206 => 144 | 240 => 145 | 241 => 146 | 276 => 147 | 277 => 148 | n => n, fun | 9 => 9 | 3 => 3 | 4 => 4 | 20 => 20 | 0 => 0 | 46 => 126 | 109 => 135 | 5 => 5 | 72 => 140 | 76 => 144 | 51 => 26 | 146 => 152 | 53 => 33 | 148 => 154 | 70 => 138 | 37 => 31 | 75 => 143 | 127 => 156 | 164 => 158 | 80 => 122 | n => n, fun | n => n⟩
theorem Try.laysRepeat : Go.Proofs.Lays.n105 Try.prog Try.laysRepeat_ren := {
  mixed := by kernel_rfl
  f99 := Try.func131.trans (congrArg some (by kernel_rfl))
  f105 := Try.func117.trans (congrArg some (by kernel_rfl))
  f165 := Try.func132.trans (congrArg some (by kernel_rfl))
  f166 := Try.func133.trans (congrArg some (by kernel_rfl))
  f169 := Try.func135.trans (congrArg some (by kernel_rfl))
  f170 := Try.func134.trans (congrArg some (by kernel_rfl))
  f206 := Try.func144.trans (congrArg some (by kernel_rfl))
  f212 := Try.func130.trans (congrArg some (by kernel_rfl))
  f240 := Try.func145.trans (congrArg some (by kernel_rfl))
  f241 := Try.func146.trans (congrArg some (by kernel_rfl))
  f263 := Try.func142.trans (congrArg some (by kernel_rfl))
  f264 := Try.func143.trans (congrArg some (by kernel_rfl))
  f276 := Try.func147.trans (congrArg some (by kernel_rfl))
  f277 := Try.func148.trans (congrArg some (by kernel_rfl))
  t0 := Try.underlying0
  a0 := Try.isAgg0
  z0 := Try.sizeOf0
  v0 := Try.zeroValue0
  t3 := Try.underlying3
  a3 := Try.isAgg3
  z3 := Try.sizeOf3
  v3 := Try.zeroValue3
  t4 := Try.underlying4
  a4 := Try.isAgg4
  z4 := Try.sizeOf4
  v4 := Try.zeroValue4
  t5 := Try.underlying5
  a5 := Try.isAgg5
  z5 := Try.sizeOf5
  v5 := Try.zeroValue5
  t9 := Try.underlying9
  a9 := Try.isAgg9
  z9 := Try.sizeOf9
  v9 := Try.zeroValue9
  t20 := Try.underlying20
  a20 := Try.isAgg20
  z20 := Try.sizeOf20
  v20 := Try.zeroValue20
  t37 := Try.underlying31
  a37 := Try.isAgg31
  z37 := Try.sizeOf31
  v37 := Try.zeroValue31
  t46 := Try.underlying126
  a46 := Try.isAgg126
  z46 := Try.sizeOf126
  v46 := Try.zeroValue126
  t51 := Try.underlying26
  a51 := Try.isAgg26
  z51 := Try.sizeOf26
  v51 := Try.zeroValue26
  t53 := Try.underlying33
  a53 := Try.isAgg33
  z53 := Try.sizeOf33
  v53 := Try.zeroValue33
  t70 := Try.underlying138
  a70 := Try.isAgg138
  z70 := Try.sizeOf138
  v70 := Try.zeroValue138
  t72 := Try.underlying140
  a72 := Try.isAgg140
  z72 := Try.sizeOf140
  v72 := Try.zeroValue140
  t75 := Try.underlying143
  a75 := Try.isAgg143
  z75 := Try.sizeOf143
  v75 := Try.zeroValue143
  t76 := Try.underlying144
  a76 := Try.isAgg144
  z76 := Try.sizeOf144
  v76 := Try.zeroValue144
  t109 := Try.underlying135
  a109 := Try.isAgg135
  z109 := Try.sizeOf135
  v109 := Try.zeroValue135
  t127 := Try.underlying156
  a127 := Try.isAgg156
  z127 := Try.sizeOf156
  v127 := Try.zeroValue156
  t146 := Try.underlying152
  a146 := Try.isAgg152
  z146 := Try.sizeOf152
  v146 := Try.zeroValue152
  t148 := Try.underlying154
  a148 := Try.isAgg154
  z148 := Try.sizeOf154
  v148 := Try.zeroValue154
  t164 := Try.underlying158
  a164 := Try.isAgg158
  z164 := Try.sizeOf158
  v164 := Try.zeroValue158 }
end Go.Proofs

/- What strings.Repeat answers, as an entry of the machine's table. -/
namespace Gm
open Go Go.Proofs Go.RowKit

namespace strings_Repeat
theorem extra : Go.Proofs.Builder.Extra Try.prog Try.laysRepeat_ren := {
  sizeBuilder := by kernel_rfl
  liesBuilder := by kernel_rfl
  t5 := Try.laysRepeat.t5
  a5 := Try.laysRepeat.a5
  z5 := Try.laysRepeat.z5
  v5 := Try.laysRepeat.v5
  infoByte := by kernel_rfl
  cellsByte := by kernel_rfl
  sizeByte := by kernel_rfl
  neB5 := by decide }

def F (s : Str) (c : Int) (K : Str → Prop) : Prop :=
  bif decide (0 ≤ c) && (Nat.ble c.toNat 9223372036854775807 && Nat.ble (s.length * c.toNat) 140737488355328) then K (Lib.repeatL s c.toNat) else False
noncomputable def en : Entry := mkEntry [.str, .int .i64] (cTy .str) fun x => F x.1 x.2.1
theorem det (s : Str) (c : Int) : Det (F s c) := by
  unfold F
  exact det_cond _ (det_ret _) det_false
theorem edet (args : List AV) : Det (en args) := mkEntry_det (ts := [.str, .int .i64]) (cod := cTy .str) (F := fun x => F x.1 x.2.1) (fun x => det x.1 x.2.1) args
theorem has : ((E.P.funcs[117]?).bind (·.body)).isSome = true := by kernel_rfl
theorem nf : Try.laysRepeat_ren.f 105 = 117 := by kernel_rfl
theorem sound : EntrySound E.P 117 en := by
  refine hand_sound (ts := [.str, .int .i64]) (cod := cTy .str) (F := fun x => F x.1 x.2.1) has ?_
  intro x K hK
  unfold F at hK
  obtain ⟨g, hk⟩ : (decide (0 ≤ x.2.1) && (Nat.ble x.2.1.toNat 9223372036854775807 && Nat.ble (List.length (α := UInt8) x.1 * x.2.1.toNat) 140737488355328)) = true ∧ K (Lib.repeatL x.1 x.2.1.toNat) := by
    cases hb : (decide (0 ≤ x.2.1) && (Nat.ble x.2.1.toNat 9223372036854775807 && Nat.ble (List.length (α := UInt8) x.1 * x.2.1.toNat) 140737488355328)) with
    | false => rw [hb] at hK; exact hK.elim
    | true => rw [hb] at hK; exact ⟨rfl, hK⟩
  simp only [Bool.and_eq_true, decide_eq_true_eq] at g
  obtain ⟨g0, g1, g2⟩ := g
  have g1 := Nat.le_of_ble_eq_true g1
  have g2 := Nat.le_of_ble_eq_true g2
  refine ⟨_, hk, ?_⟩
  intro S vs hF hc
  obtain ⟨hlen, hr⟩ := hc
  obtain ⟨v0, v1, rfl⟩ : ∃ v0 v1, vs = #[v0, v1] := by
    obtain ⟨l⟩ := vs
    match l, hlen with
    | [a, b], _ => exact ⟨a, b, rfl⟩
  have r0 : Rv S (.str x.1) v0 := hr 0 _ v0 rfl rfl
  have r1 : Rv S (.int .i64 x.2.1) v1 := hr 1 _ v1 rfl rfl
  cases rv_int r1
  obtain ⟨e0, e1⟩ := rv_str r0
  have hsz : (strOf v0).size = List.length (α := UInt8) x.1 := by rw [size_list, e1]
  have key := Any.strings_Repeat Try.laysRepeat extra (strOf v0) x.2.1.toNat S.w g1 (by rw [hsz]; exact g2)
  rw [nf, e1, ← e0, show ((x.2.1.toNat : Nat) : Int) = x.2.1 from Int.toNat_of_nonneg g0] at key
  refine key.mono ?_
  rintro e w' ⟨rfl, hB⟩
  exact ⟨_, .str (Lib.repeatL x.1 x.2.1.toNat), rfl, hB, fun K' h => h, fun T => .str _ _ (by simp)⟩
end strings_Repeat
end Gm
