/- The contracts of package desc, second part: slices.Index, slices.Contains over eight pointers; Open, Get, Move, Dup, Close. -/
import Derived.Test.YthjdpcgkkmfodaaDescA
namespace Go.Proofs.Ythjdpcgkkmfodaa.Desc
open Go.RowKit Go.Proofs.Ythjdpcgkkmfodaa.Base
set_option linter.unusedVariables false
set_option linter.unusedSimpArgs false

def idx (f : Nat → Option Nat) (o : Option Nat) : Option Nat := (List.range 8).find? fun k => f k == o
theorem idx_some {f : Nat → Option Nat} {o : Option Nat} {k : Nat} (hk : k < 8) (h : f k = o) (hm : ∀ j, j < k → f j ≠ o) : idx f o = some k := by
  unfold idx
  rw [List.find?_range_eq_some]
  exact ⟨by simp [h], by simpa using hk, fun j hj => by simpa using hm j hj⟩
theorem idx_none {f : Nat → Option Nat} {o : Option Nat} (hm : ∀ j, j < 8 → f j ≠ o) : idx f o = none := by
  unfold idx
  rw [List.find?_eq_none]
  intro j hj
  simpa using hm j (by simpa using hj)
theorem idx_free (f : Nat → Option Nat) : idx f none = firstFree f := by
  unfold idx firstFree
  congr 1
  funext k
  cases f k <;> rfl
def idxV (f : Nat → Option Nat) (o : Option Nat) : Value := match idx f o with | some k => .int .i64 k | none => .int .i64 (-1)

set_option maxRecDepth 100000 in
set_option maxHeartbeats 1600000 in
theorem index_any (t T : Nat) (f : Nat → Option Nat) (o : Option Nat) (w : World) (hT : Tab t T w f) (hf : ∀ k, k < 8 → Cells w (f k)) (ho : Cells w o) :
    Calls Try.prog 16 #[.slice (some ⟨T, 0, none⟩) 8 8, ptr o] w fun e w' => e = .returned (idxV f o) ∧ w = w' := by
  have HF := Lib.hid hf; clear hf
  have HC := Lib.hid ho; clear ho
  cases o with
  | none =>
    rw [ptr_none]
    go_enter Try.func16, Try.ntmps16
    go_wp2
    go_loop [8] (fun i => ∃ k : Nat, k ≤ 8 ∧ i = .int .i64 k ∧ ∀ j, j < k → f j ≠ none) (fun i => 8 - (intOf i).toNat)
    case atStart => exact ⟨0, by omega, rfl, fun j hj => absurd hj (Nat.not_lt_zero _)⟩
    case round =>
      obtain ⟨k, hk, rfl, hm⟩ := hrel
      have HM := Lib.hid hm; clear hm
      by_cases hlt : k < 8
      · have hc := hT.cell k hlt
        have HT := Lib.hid hT; clear hT
        obtain ⟨q, hq⟩ : ∃ q, f k = q := ⟨_, rfl⟩
        rw [hq] at hc
        have HO := Lib.hid hq; clear hq
        cases q with
        | none =>
          rw [ptr_none] at hc
          go_wp2
          go_ret
          exact ⟨by unfold idxV; rw [idx_some hlt HO.out HM.out]; rfl, rfl⟩
        | some b =>
          rw [ptr_some] at hc
          go_wp2
          go_round
          case rel =>
            refine ⟨k + 1, by omega, by go_num, fun j hj => ?_⟩
            by_cases e : j = k
            · subst e; rw [HO.out]; simp
            · exact HM.out j (by omega)
          case measure => simp [intOf]; omega
      · have hk8 : k = 8 := by omega
        subst hk8
        go_wp2
        go_ret
        exact ⟨by unfold idxV; rw [idx_none HM.out]; rfl, rfl⟩
  | some a =>
    rw [ptr_some]
    go_enter Try.func16, Try.ntmps16
    go_wp2
    go_loop [8] (fun i => ∃ k : Nat, k ≤ 8 ∧ i = .int .i64 k ∧ ∀ j, j < k → f j ≠ some a) (fun i => 8 - (intOf i).toNat)
    case atStart => exact ⟨0, by omega, rfl, fun j hj => absurd hj (Nat.not_lt_zero _)⟩
    case round =>
      obtain ⟨k, hk, rfl, hm⟩ := hrel
      have HM := Lib.hid hm; clear hm
      by_cases hlt : k < 8
      · have hc := hT.cell k hlt
        have HT := Lib.hid hT; clear hT
        obtain ⟨q, hq⟩ : ∃ q, f k = q := ⟨_, rfl⟩
        rw [hq] at hc
        have HO := Lib.hid hq; clear hq
        by_cases hqa : q = some a
        · subst hqa
          rw [ptr_some] at hc
          have q1 := eql_same w a
          go_wp2
          go_ret
          exact ⟨by unfold idxV; rw [idx_some hlt HO.out HM.out]; rfl, rfl⟩
        · have hrel2 : ∀ j, j < k + 1 → f j ≠ some a := fun j hj => by
            by_cases e : j = k
            · subst e; rw [HO.out]; exact hqa
            · exact HM.out j (by omega)
          have HR := Lib.hid hrel2; clear hrel2
          cases q with
          | none =>
            rw [ptr_none] at hc
            go_wp2
            go_round
            case rel => exact ⟨k + 1, by omega, by go_num, HR.out⟩
            case measure => simp [intOf]; omega
          | some b =>
            rw [ptr_some] at hc
            have n2 : ¬ a = b := fun h => hqa (by rw [h])
            obtain ⟨c1, t1, e1⟩ := HC.out a rfl
            obtain ⟨c2, t2, e2⟩ := HF.out k hlt b HO.out
            have q1 := eql_other n2 e1 e2
            clear hqa e1 e2 n2
            go_wp2
            go_round
            case rel => exact ⟨k + 1, by omega, by go_num, HR.out⟩
            case measure => simp [intOf]; omega
      · have hk8 : k = 8 := by omega
        subst hk8
        go_wp2
        go_ret
        exact ⟨by unfold idxV; rw [idx_none HM.out]; rfl, rfl⟩

set_option maxRecDepth 100000 in
set_option maxHeartbeats 800000 in
theorem contains_any (t T : Nat) (f : Nat → Option Nat) (o : Option Nat) (w : World) (hT : Tab t T w f) (hf : ∀ k, k < 8 → Cells w (f k)) (ho : Cells w o) :
    Calls Try.prog 21 #[.slice (some ⟨T, 0, none⟩) 8 8, ptr o] w fun e w' => e = .returned (.bool (idx f o).isSome) ∧ w = w' := by
  have h := index_any t T f o w hT hf ho
  unfold idxV at h
  cases hi : idx f o with
  | none =>
    rw [hi] at h
    have H := Lib.hid h; clear h hi
    go_enter Try.func21, Try.ntmps21
    go_wp2_with (go_at_call 16; refine H.out.mono ?_; rintro e w' ⟨rfl, rfl⟩)
    go_ret
    exact ⟨rfl, rfl⟩
  | some k =>
    rw [hi] at h
    have H := Lib.hid h; clear h hi
    go_enter Try.func21, Try.ntmps21
    go_wp2_with (go_at_call 16; refine H.out.mono ?_; rintro e w' ⟨rfl, rfl⟩)
    go_ret
    exact ⟨rfl, rfl⟩
end Go.Proofs.Ythjdpcgkkmfodaa.Desc
