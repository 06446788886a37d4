/- TopDescribed, for every input: a process's open files are what one keeps by hand: the law answers true, and its list reads as it did. No condition. -/
import Derived.Test.YthjdpcgkkmfodaaDescG
import Derived.Test.YthjdpcgkkmfodaaArg
import Derived.Test.YthjdpcgkkmfodaaRows
import Derived.WalkKit
import Derived.ProofKit
import Derived.OpenShut
namespace Go.Proofs.Ythjdpcgkkmfodaa.topDescribed
open Go.ChangeShapes Go.WideShapes Go.ChangeAt Go.RowKit
set_option linter.unusedVariables false      -- a walk need not use every 'w<i>' (that an integer argument fits its kind)

theorem own : ownKnob Try.prog.godebug = none := by kernel_rfl

theorem laidOut : laidOutB Try.prog = true := by kernel_rfl
theorem c42 : Try.prog.cellsOf 42 = 2 := by kernel_rfl
theorem c5 : Try.prog.cellsOf 5 = 1 := by kernel_rfl

theorem walk (ao : Option Addr) (len cap : Nat) (X : List Int) (w : World) (hl : len ≤ cap) (hm : cap ≤ maxLen) (hao : ao = none → len = 0 ∧ cap = 0) (hX : X.length = len * 2) (hw : ∀ y ∈ X, (Lit.int .u8 y).wf = true)
    (hc : ∀ ad, ao = some ad → ∀ j y, X[j]? = some y → w.cell? (ad.add j) = some (.int .u8 y)) :
    Calls Try.prog 4 #[.slice ao len cap] w (Base.New w (.bool true)) := by
  obtain ⟨n, hn, hmin⟩ : ∃ n : Nat, (n = len ∧ len ≤ 150 ∨ n = 150 ∧ 150 < len) ∧ (if (150 : Int) < (len : Int) then 150 else (len : Int)) = (n : Int) := by
    by_cases h : 150 < len
    · exact ⟨150, .inr ⟨rfl, h⟩, by rw [if_pos (by omega)]; rfl⟩
    · exact ⟨len, .inl ⟨rfl, by omega⟩, by rw [if_neg (by omega)]⟩
  have hnl : n ≤ len := by omega
  refine Desc.head_any ao len cap n w (by omega) hm (by omega) hmin (fun h => by have := hao h; omega) (X.take (n * 2)) ?_ ?_ ?_ ?_
  · intro x hx
    have := hw x (List.mem_of_mem_take hx)
    simpa [Lit.wf, IntKind.min, IntKind.max, IntKind.signed, IntKind.bits] using this
  · rw [List.length_take, hX]; omega
  · intro ad had j u hu
    rw [List.getElem?_map, List.getElem?_take] at hu
    split at hu
    · cases hx : X[j]? with
      | none => rw [hx] at hu; cases hu
      | some y => rw [hx] at hu; simp only [Option.map_some, Option.some.injEq] at hu; rw [← hu]; exact hc ad had j y hx
    · cases hu
  · intro ad had h0
    obtain ⟨y, hy⟩ : ∃ y, X[0]? = some y := ⟨X[0]'(by omega), by simp⟩
    have := World.block_lt_of_cell? w _ (hc ad had 0 y hy)
    simpa [Addr.add] using this

/-! ### THE ROW's STEP: WRITTEN OUT: LEAVE IT -/
set_option maxRecDepth 100000 in
theorem lifted (os : Os) (started : os.Started) (H : Type) (enc : TypeId × Value → H) :
    ReturnsInHanded {} Try.checked os 4 .any (Rows.topDescribedSpec.pre6 enc Try.prog Try.f4 Rows.topDescribedRow.domain false) (Rows.topDescribedSpec.post enc Try.prog Try.f4 false true false false) := by
  refine returnsInHanded_of_change (C := Try.checked) own started (by kernel_rfl) Try.func4
    (ChangeSpec.witness6 (enc := enc) (C := Try.checked) false ⟨#[], #[.slice none 0 0], []⟩ 8 (by kernel_rfl) (by kernel_rfl) (by kernel_rfl) (by kernel_rfl)) ?_
  intro W base args ds gs before hval0 hW hcnd _
  have hval : ∀ (j : Nat) t v, Try.f4.params[j]? = some t → args[j]? = some v → Value.okWide Try.prog W .any base t v := hval0
  have hW' := hW
  obtain ⟨p, q, hA0, hV, rfl, hfz, hnd⟩ := hW
  have hA : DataW.TrodAll enc Try.prog W 0 (fun _ => true) true Try.f4.params.toList args.toList ds p := hA0
  rw [Try.params4] at hA hval
  obtain ⟨v0, vs0, d0, ds0, p0, q0, hargs, rfl, rfl, h0, r0⟩ := trodAll_cons hA
  obtain ⟨rfl, rfl, rfl⟩ := trodAll_nil r0
  obtain rfl : args = #[v0] := by cases args; simp_all
  obtain ⟨rfl, rfl⟩ := trodVars_none hV
  obtain ⟨ad0, len0, cap0, hv0⟩ := okWide_slice Try.underlying37 (hval 0 37 v0 rfl rfl)
  have h0k := h0
  obtain ⟨fuel, hf⟩ := h0
  obtain ⟨ao, len, cap, X, hv, hl, hm, hao, hX, hw, hc⟩ := Arg.open_rows (by decide) Try.underlying37 Try.underlying42 Try.underlying5 c5 c42 (v := v0) (by subst hv0; exact hf)
  subst hv
  clear hA0 hval0 hv0
  simp only [List.append_nil] at hW'
  refine (walk ao len cap X W hl hm hao hX hw hc).mono fun e W' ⟨he, hg⟩ => ?_
  subst he
  have hlt : ∀ x ∈ p0, x.block < W.heap.size := fun x hx => by simpa using hW'.lt x hx
  have hargs' := trodAll_cons_mk (Below.trod laidOut (by kernel_rfl) (of_decide_eq_true (by kernel_rfl)) h0k hg hlt) trodAll_mk0
  simp only [List.append_nil] at hargs'
  exact ⟨_, rfl, _, _, _, [], p0, [], hW', (trodAll_cons_mk (shut_bool Try.underlying4 _) trodAll_mk0), hargs', rfl, hg.frame _, fun h => by cases h⟩

theorem over : Rows.topDescribedRow.holds Try.pinned (OpenSpec.ofChange Rows.topDescribedSpec) :=
  OpenClaim.holds_of_wide 4 Try.f4 rfl rfl rfl rfl rfl rfl rfl ⟨rfl, rfl, rfl, rfl, rfl⟩ rfl rfl rfl rfl rfl (by kernel_rfl) Try.func4 (by kernel_rfl)
    (of_decide_eq_true (by kernel_rfl)) (by unfold Func.isWrapper; first | (rw [if_pos (by decide +kernel)]; kernel_rfl) | (rw [if_neg (by decide +kernel)]; exact ⟨rfl, rfl⟩))
    (fun os started H enc _ => lifted os started H enc)

/-- ████ THE STATEMENT ████ -/
theorem proved : Rows.TopDescribedSaid :=
  over
#print axioms proved
end Go.Proofs.Ythjdpcgkkmfodaa.topDescribed
