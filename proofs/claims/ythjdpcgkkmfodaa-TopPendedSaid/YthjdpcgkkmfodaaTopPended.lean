/- TopPended, for every input: a device has what one keeps by hand: the law answers true, and its lists read as they did. No condition. -/
import Derived.Test.YthjdpcgkkmfodaaPendT
import Derived.Test.YthjdpcgkkmfodaaArg
import Derived.Test.YthjdpcgkkmfodaaRows
import Derived.WalkKit
import Derived.ProofKit
import Derived.OpenShut
import Derived.Deep.Grids
namespace Go.Proofs.Ythjdpcgkkmfodaa.topPended
open Go.ChangeShapes Go.WideShapes Go.ChangeAt Go.RowKit
set_option linter.unusedVariables false      -- a walk need not use every 'w<i>' (that an integer argument fits its kind)

theorem own : ownKnob Try.prog.godebug = none := by kernel_rfl

theorem laidOut : laidOutB Try.prog = true := by kernel_rfl
theorem c62 : Try.prog.cellsOf 62 = 3 := by kernel_rfl
theorem c5 : Try.prog.cellsOf 5 = 1 := by kernel_rfl
theorem c4 : Try.prog.cellsOf 4 = 1 := by kernel_rfl

theorem min_of (q len : Nat) : ∃ n : Nat, n ≤ len ∧ n ≤ q ∧ (if (q : Int) < (len : Int) then (q : Int) else (len : Int)) = (n : Int) := by
  by_cases h : q < len
  · exact ⟨q, by omega, Nat.le_refl _, by rw [if_pos (by omega)]⟩
  · exact ⟨len, Nat.le_refl _, by omega, by rw [if_neg (by omega)]⟩

theorem walk (lines : Int) (w0 : (Lit.int .u8 lines).wf = true) (ao : Option Addr) (len cap : Nat) (X : List Int) (ko : Option Addr) (klen kcap : Nat) (K : Nat → Bool) (w : World) (hl : len ≤ cap) (hm : cap ≤ maxLen) (hao : ao = none → len = 0 ∧ cap = 0) (hX : X.length = len * 3) (hw : ∀ y ∈ X, (Lit.int .u8 y).wf = true)
    (hc : ∀ ad, ao = some ad → ∀ j y, X[j]? = some y → w.cell? (ad.add j) = some (.int .u8 y))
    (hkl : klen ≤ kcap) (hkm : kcap ≤ maxLen) (hko : ko = none → klen = 0 ∧ kcap = 0) (hk : ∀ a, ko = some a → ∀ i, i < kcap → w.cell? (a.add i) = some (.bool (K i))) :
    Calls Try.prog 5 #[.int .u8 lines, .slice ao len cap, .slice ko klen kcap] w (Base.New w (.bool true)) := by
  obtain ⟨n, hnl, hn, hmin⟩ := min_of 150 len
  obtain ⟨kn, hknl, hkn, hmin2⟩ := min_of 100 klen
  have hb : 0 ≤ lines ∧ lines ≤ 255 := by simpa [Lit.wf, IntKind.min, IntKind.max, IntKind.signed, IntKind.bits] using w0
  obtain ⟨q, rfl⟩ := Int.eq_ofNat_of_zero_le hb.1
  have hwf : ∀ y ∈ X, 0 ≤ y ∧ y ≤ 255 := fun y hy => by
    have := hw y hy
    simpa [Lit.wf, IntKind.min, IntKind.max, IntKind.signed, IntKind.bits] using this
  have hkl2 : ((List.range kn).map K).length = kn := by simp
  refine Pend.head_any q len cap klen kcap n ao ko ((X.take (n * 3)).map Int.toNat) ((List.range kn).map K) w (by omega) hnl hl hm hn hmin (by omega) (by omega) hkl hkm (by rw [hkl2]; exact hmin2) (fun h => by have := hao h; omega) ?_ ?_ ?_ ⟨?_, fun h => (hko h).2, ?_, ?_⟩
  · rw [List.length_map, List.length_take, hX]; omega
  · intro x hx
    obtain ⟨y, hy, rfl⟩ := List.mem_map.1 hx
    have := hwf y (List.mem_of_mem_take hy)
    omega
  · intro ad had j x hx
    rw [List.getElem?_map, List.getElem?_take] at hx
    split at hx
    · cases hy : X[j]? with
      | none => rw [hy] at hx; cases hx
      | some y =>
        rw [hy] at hx
        simp only [Option.map_some, Option.some.injEq] at hx
        have h0 := hwf y (List.mem_of_getElem? hy)
        rw [← hx, hc ad had j y hy, Int.toNat_of_nonneg h0.1]
    · cases hx
  · intro h
    have := hko h
    have h0 : kn = 0 := by omega
    rw [h0]; rfl
  · intro a ha h0
    rw [hkl2] at h0
    have := World.block_lt_of_cell? w _ (hk a ha 0 (by omega))
    simpa [Addr.add] using this
  · intro a ha j y hy
    rw [List.getElem?_map] at hy
    by_cases hj : j < kn
    · rw [List.getElem?_range hj] at hy
      simp only [Option.map_some, Option.some.injEq] at hy
      rw [hk a ha j (by omega), hy]
    · rw [List.getElem?_eq_none (by simp; omega)] at hy; cases hy

/-! ### THE ROW's STEP: WRITTEN OUT: LEAVE IT -/
set_option maxRecDepth 100000 in
theorem lifted (os : Os) (started : os.Started) (H : Type) (enc : TypeId × Value → H) :
    ReturnsInHanded {} Try.checked os 5 .any (Rows.topPendedSpec.pre6 enc Try.prog Try.f5 Rows.topPendedRow.domain false) (Rows.topPendedSpec.post enc Try.prog Try.f5 false true false false) := by
  refine returnsInHanded_of_change (C := Try.checked) own started (by kernel_rfl) Try.func5
    (ChangeSpec.witness6 (enc := enc) (C := Try.checked) false ⟨#[], #[.int .u8 0, .slice none 0 0, .slice none 0 0], []⟩ 8 (by kernel_rfl) (by kernel_rfl) (by kernel_rfl) (by kernel_rfl)) ?_
  intro W base args ds gs before hval0 hW hcnd _
  have hval : ∀ (j : Nat) t v, Try.f5.params[j]? = some t → args[j]? = some v → Value.okWide Try.prog W .any base t v := hval0
  have hW' := hW
  obtain ⟨p, q, hA0, hV, rfl, hfz, hnd⟩ := hW
  have hA : DataW.TrodAll enc Try.prog W 0 (fun _ => true) true Try.f5.params.toList args.toList ds p := hA0
  rw [Try.params5] at hA hval
  obtain ⟨v0, vs0, d0, ds0, p0, q0, hargs, rfl, rfl, h0, r0⟩ := trodAll_cons hA
  obtain ⟨v1, vs1, d1, ds1, p1, q1, rfl, rfl, rfl, h1, r1⟩ := trodAll_cons r0
  obtain ⟨v2, vs2, d2, ds2, p2, q2, rfl, rfl, rfl, h2, r2⟩ := trodAll_cons r1
  obtain ⟨rfl, rfl, rfl⟩ := trodAll_nil r2
  obtain rfl : args = #[v0, v1, v2] := by cases args; simp_all
  obtain ⟨rfl, rfl⟩ := trodVars_none hV
  obtain ⟨a0, rfl, rfl, rfl, w0⟩ := open_int Try.underlying5 (hval 0 5 v0 rfl rfl) h0
  obtain ⟨ad1, len1, cap1, hv1⟩ := okWide_slice Try.underlying60 (hval 1 60 v1 rfl rfl)
  obtain ⟨ad2, len2, cap2, hv2⟩ := okWide_slice Try.underlying61 (hval 2 61 v2 rfl rfl)
  have h1k := h1
  have h2k := h2
  obtain ⟨fuel1, hf1⟩ := h1
  obtain ⟨fuel2, hf2⟩ := h2
  obtain ⟨ao, len, cap, X, hv, hl, hm, hao, hX, hw, hc⟩ := Arg.open_rows (by decide) Try.underlying60 Try.underlying62 Try.underlying5 c5 c62 (v := v1) (by subst hv1; exact hf1)
  obtain ⟨ko, klen, kcap, K, hkv, hkl, hkm, hko, hk⟩ : ∃ (ko : Option Addr) (klen kcap : Nat) (K : Nat → Bool), v2 = .slice ko klen kcap ∧ klen ≤ kcap ∧ kcap ≤ maxLen ∧ (ko = none → klen = 0 ∧ kcap = 0) ∧ ∀ a, ko = some a → ∀ i, i < kcap → W.cell? (a.add i) = some (.bool (K i)) := by
    rcases Go.Deep.open_bools (cs := [v2]) Try.underlying61 Try.underlying4 c4 (by subst hv2; exact hf2) with ⟨h, _⟩ | ⟨a, l, c, B, h, _, h3, h4, _, h5⟩
    · simp only [List.cons.injEq, and_true] at h
      exact ⟨none, 0, 0, fun _ => false, h, Nat.le_refl _, Nat.zero_le _, fun _ => ⟨rfl, rfl⟩, fun a h => by cases h⟩
    · simp only [List.cons.injEq, and_true] at h
      exact ⟨some a, l, c, B, h, h3, h4, (fun h => by cases h), fun a' h' i hi => by cases h'; exact h5 i hi⟩
  subst hv hkv
  clear hA0 hval0 hv1 hv2
  simp only [List.append_nil] at hW'
  refine (walk a0 w0 ao len cap X ko klen kcap K W hl hm hao hX hw hc hkl hkm hko hk).mono fun e W' ⟨he, hg⟩ => ?_
  subst he
  have hlt : ∀ x ∈ p1 ++ p2, x.block < W.heap.size := fun x hx => by simpa using hW'.lt x (by simpa using hx)
  have hargs' := trodAll_cons_mk (shut_int Try.underlying5 w0) (trodAll_cons_mk (Below.trod laidOut (by kernel_rfl) (of_decide_eq_true (by kernel_rfl)) h1k hg (fun x hx => hlt x (List.mem_append_left _ hx))) (trodAll_cons_mk (Below.trod laidOut (by kernel_rfl) (of_decide_eq_true (by kernel_rfl)) h2k hg (fun x hx => hlt x (List.mem_append_right _ hx))) trodAll_mk0))
  simp only [List.append_nil, List.nil_append] at hargs' hW'
  exact ⟨_, rfl, _, _, _, [], p1 ++ p2, [], hW', (trodAll_cons_mk (shut_bool Try.underlying4 _) trodAll_mk0), hargs', rfl, hg.frame _, fun h => by cases h⟩

theorem over : Rows.topPendedRow.holds Try.pinned (OpenSpec.ofChange Rows.topPendedSpec) :=
  OpenClaim.holds_of_wide 5 Try.f5 rfl rfl rfl rfl rfl rfl rfl ⟨rfl, rfl, rfl, rfl, rfl⟩ rfl rfl rfl rfl rfl (by kernel_rfl) Try.func5 (by kernel_rfl)
    (of_decide_eq_true (by kernel_rfl)) (by unfold Func.isWrapper; first | (rw [if_pos (by decide +kernel)]; kernel_rfl) | (rw [if_neg (by decide +kernel)]; exact ⟨rfl, rfl⟩))
    (fun os started H enc _ => lifted os started H enc)

/-- ████ THE STATEMENT ████ -/
theorem proved : Rows.TopPendedSaid :=
  over
#print axioms proved
end Go.Proofs.Ythjdpcgkkmfodaa.topPended
