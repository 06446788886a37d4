/- The contracts of package desc, fifth part: List, and slices.Equal of two lists that the call owns. -/
import Derived.Test.YthjdpcgkkmfodaaDescD
namespace Go.Proofs.Ythjdpcgkkmfodaa.Desc
open Go.RowKit Go.Proofs.Ythjdpcgkkmfodaa.Base
set_option linter.unusedVariables false
set_option linter.unusedSimpArgs false

def openTo (f : Nat → Option Nat) (k : Nat) : List Nat := (List.range k).filter fun j => (f j).isSome
theorem openTo_hit {f : Nat → Option Nat} {k b : Nat} (h : f k = some b) : openTo f (k + 1) = openTo f k ++ [k] := by simp [openTo, List.range_succ, h]
theorem openTo_miss {f : Nat → Option Nat} {k : Nat} (h : f k = none) : openTo f (k + 1) = openTo f k := by simp [openTo, List.range_succ, h]
theorem openTo_le (f : Nat → Option Nat) (k : Nat) : (openTo f k).length ≤ k := by
  have := List.length_filter_le (fun j => (f j).isSome) (List.range k); simpa [openTo] using this
theorem openTo_congr {f g : Nat → Option Nat} (k : Nat) (h : ∀ j, j < k → (f j = none ↔ g j = none)) : openTo f k = openTo g k := by
  unfold openTo
  apply List.filter_congr
  intro j hj
  have := h j (by simpa using hj)
  cases hf : f j <;> cases hg : g j <;> simp_all
def nums (l : List Nat) : List Value := l.map fun (k : Nat) => .int .i64 (k : Int)
theorem nums_nil : nums [] = [] := rfl
theorem nums_snoc (l : List Nat) (k : Nat) : nums (l ++ [k]) = nums l ++ [.int .i64 (k : Int)] := by simp [nums]
theorem nums_len (l : List Nat) : (nums l).length = l.length := by simp [nums]
theorem info3 : (Try.prog.info? 3).map (fun i => (i.zero, i.size, i.bytes)) = some (some (.int .i64 0), 1, 8) := by kernel_rfl

def ListPost (B : Nat) (l : List Nat) (w : World) (e : Ending) (w' : World) : Prop := ∃ v, e = .returned v ∧ w'.ownsRow B 3 1 v l.length (nums l) ∧ Below B w w'

set_option maxRecDepth 100000 in
set_option maxHeartbeats 1600000 in
theorem list_any (T : Nat) (f : Nat → Option Nat) (w : World) (hT : Tab 72 T w f) :
    Calls Try.prog 24 #[.pointer (some ⟨T, 0, none⟩)] w (ListPost w.heap.size (openTo f 8) w) := by
  obtain ⟨i0, hi, hz0, hz1, hz2⟩ := info_parts info3
  have c0 := hT.cell 0 (by omega)
  have c1 := hT.cell 1 (by omega)
  have c2 := hT.cell 2 (by omega)
  have c3 := hT.cell 3 (by omega)
  have c4 := hT.cell 4 (by omega)
  have c5 := hT.cell 5 (by omega)
  have c6 := hT.cell 6 (by omega)
  have c7 := hT.cell 7 (by omega)
  have HT := Lib.hid hT; clear hT
  obtain ⟨B, hB⟩ : ∃ B, B = w.heap.size := ⟨_, rfl⟩
  rw [← hB]
  have HB := Lib.hid hB; clear hB
  go_enter Try.func24, Try.ntmps24
  go_wp2_with fail
  clear c0 c1 c2 c3 c4 c5 c6 c7
  go_loopw [2, 11] (fun v i wr => ∃ k : Nat, k ≤ 8 ∧ i = .int .i64 k ∧ wr.ownsRow B 3 1 v (openTo f k).length (nums (openTo f k)) ∧ Below B w wr) (fun _ i _ => 8 - (intOf i).toNat)
  case atStart => exact ⟨0, by omega, rfl, by simpa [openTo, nums_nil] using World.ownsRow_nil w B 3 1, by rw [HB.out]; exact Below.refl _ _⟩
  case round =>
    obtain ⟨k, hk, rfl, hown, hbel⟩ := hrel
    have hsz : B ≤ wr.heap.size := by rw [HB.out]; exact hbel.size
    have HL := Lib.hid hbel; clear hbel
    by_cases hlt : k < 8
    · obtain ⟨q, hq⟩ : ∃ q, f k = q := ⟨_, rfl⟩
      have hix := index8 f k q hlt hq
      have HQ := Lib.hid hq; clear hq
      have hle := openTo_le f k
      cases q with
      | none =>
        rw [ptr_none] at hix
        have HO := Lib.hid hown; clear hown
        go_wp2
        go_roundw
        case rel => exact ⟨k + 1, by omega, by go_num, by rw [openTo_miss HQ.out]; exact HO.out, HL.out⟩
        case measure => simp [intOf]; omega
      | some b =>
        rw [ptr_some] at hix
        go_wp2_with (at_builtin; refine wpList_append_own _ rfl _ _ 54 rfl B 3 i0 (.int .i64 0) 1 8 Try.underlying54 hi hz0 hz1 hz2 rfl (by decide) _ _ _ rfl (hown.alloc _) ⟨wr.heap.size, 0, none⟩ 1 1 [.int .i64 k] rfl rfl ?c1 ?c2 ?c3 ?c4 ?c5 ?_)
        case c1 => exact news1 _ _ _
        case c2 => intro u hu; simp at hu; subst hu; rfl
        case c3 => unfold maxLen; omega
        case c4 => omega
        case c5 => simp; omega
        intro v' w1 hown' hgrow _
        have hB1 : Below B wr w1 := ((Below.refl B wr).alloc hsz _).grown hgrow (by simp; omega) (fun k hk => (hown.lt k hk).1)
        have HO := Lib.hid hown'; have HG := Lib.hid hB1; clear hown' hgrow hown hB1
        go_wp2
        go_roundw
        case rel =>
          refine ⟨k + 1, by omega, by go_num, ?_, HL.out.trans HG.out⟩
          rw [openTo_hit HQ.out]
          rw [nums_snoc, List.length_append]
          exact HO.out
        case measure => simp [intOf]; omega
    · have hk8 : k = 8 := by omega
      subst hk8
      have HO := Lib.hid hown; clear hown
      go_wp2
      go_ret
      exact ⟨_, rfl, HO.out, HL.out⟩

set_option maxRecDepth 100000 in
set_option maxHeartbeats 1600000 in
theorem equal_same (B1 B2 : Nat) (l : List Nat) (v1 v2 : Value) (w : World) (hl : l.length ≤ 100000) (h1 : w.ownsRow B1 3 1 v1 l.length (nums l)) (h2 : w.ownsRow B2 3 1 v2 l.length (nums l)) :
    Calls Try.prog 23 #[v1, v2] w fun e w' => e = .returned (.bool true) ∧ ∃ n, w' = w.drewN n := by
  obtain ⟨g1, c1, rfl⟩ := own_shape h1
  obtain ⟨g2, c2, rfl⟩ := own_shape h2
  have HA := Lib.hid h1; have HB := Lib.hid h2; clear h1 h2
  go_enter Try.func23, Try.ntmps23
  go_wp2
  go_loopw [13] (fun i wr => ∃ k n : Nat, k ≤ l.length ∧ i = .int .i64 k ∧ wr = w.drewN n) (fun i _ => l.length - (intOf i).toNat)
  case atStart => exact ⟨0, 0, by omega, rfl, rfl⟩
  case round =>
    obtain ⟨k, n, hk, rfl, rfl⟩ := hrel
    by_cases hlt : k < l.length
    · obtain ⟨x, hx⟩ : ∃ x, l[k]? = some x := ⟨l[k], by simp [hlt]⟩
      have hx2 : (nums l)[k]? = some (.int .i64 (x : Int)) := by simp [nums, hx]
      clear hx
      obtain ⟨b1, rfl⟩ : ∃ b, g1 = some ⟨b, 0, none⟩ := by
        rcases HA.out.2 with ⟨h, h'⟩ | ⟨b, cap, cur, h, _⟩
        · omega
        · simp only [Value.slice.injEq] at h; exact ⟨b, h.1⟩
      obtain ⟨b2, rfl⟩ : ∃ b, g2 = some ⟨b, 0, none⟩ := by
        rcases HB.out.2 with ⟨h, h'⟩ | ⟨b, cap, cur, h, _⟩
        · omega
        · simp only [Value.slice.injEq] at h; exact ⟨b, h.1⟩
      have hadd : ∀ b j : Nat, (⟨b, 0, none⟩ : Addr).add j = ⟨b, j, none⟩ := by intro b j; unfold Addr.add; split <;> simp_all
      have e1 := HA.out.cells (g := b1) rfl _ _ hx2
      have e2 := HB.out.cells (g := b2) rfl _ _ hx2
      rw [hadd] at e1 e2
      clear hx2 hadd
      go_wp2_with fail
      go_quiet (fail)
      go_wp2
      exact ⟨⟨k + 1, _, by omega, by go_num, rfl⟩, by simp [intOf]; omega⟩
    · have hke : k = l.length := by omega
      subst hke
      go_wp2
      go_ret
      exact ⟨rfl, _, rfl⟩
end Go.Proofs.Ythjdpcgkkmfodaa.Desc
