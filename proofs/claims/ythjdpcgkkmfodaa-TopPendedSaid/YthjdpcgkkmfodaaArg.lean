/- An argument that is a slice of short arrays of small numbers: its cells, one by one. -/
import Derived.Test.YthjdpcgkkmfodaaBase
import Derived.ProofKit
import Derived.OpenShut
import Derived.Deep.Slices
namespace Go.Proofs.Ythjdpcgkkmfodaa.Arg
open Go.ChangeShapes Go.WideShapes Go.ChangeAt Go.RowKit Go.Deep

section
variable {H : Type} {enc : TypeId × Value → H} {P : Program} {w : World} {base : Nat} {spare : Nat → Bool} {held : Bool}

/-- One short array. -/
theorem open_array {e ei m fuel : Nat} {k : IntKind} {cs : List Value} {x : DataW H × List MemPlace} (he : P.underlying e = some (.array m ei)) (hei : P.underlying ei = some (.int k)) (hc1 : P.cellsOf ei = 1) (hc : P.cellsOf e = m)
    (h : DataW.trod enc P w base spare held fuel e cs = some x) : cs.length = m ∧ ∀ j, j < m → ∃ n, cs[j]? = some (.int k n) ∧ (Lit.int k n).wf = true := by
  obtain ⟨xs, q, rfl, _, hl, hxs, hx⟩ := DataW.trod_array he h
  refine ⟨by rw [hl, hc], fun j hj => ?_⟩
  have h1 := hx j hj
  rw [hc1, Nat.mul_one] at h1
  have hj2 : j < xs.length := by omega
  rw [List.getElem?_eq_getElem hj2] at h1
  obtain ⟨n, hn, _, hw⟩ := DataW.trod_int hei h1
  refine ⟨n, ?_, hw⟩
  have : (cs.drop j)[0]? = some (.int k n) := by
    have h2 : ((cs.drop j).take 1)[0]? = some (.int k n) := by rw [hn]; rfl
    simpa [List.getElem?_take] using h2
  simpa using this

/-- The slice. -/
theorem open_rows {t e ei m fuel : Nat} {k : IntKind} {v : Value} {x : DataW H × List MemPlace} (hm : 0 < m) (ht : P.underlying t = some (.slice e)) (he : P.underlying e = some (.array m ei)) (hei : P.underlying ei = some (.int k)) (hc1 : P.cellsOf ei = 1) (hc : P.cellsOf e = m)
    (h : DataW.trod enc P w base spare held fuel t [v] = some x) :
    ∃ (ao : Option Addr) (len cap : Nat) (X : List Int), v = .slice ao len cap ∧ len ≤ cap ∧ cap ≤ maxLen ∧ (ao = none → len = 0 ∧ cap = 0) ∧ X.length = len * m ∧ (∀ y ∈ X, (Lit.int k y).wf = true) ∧
      (∀ ad, ao = some ad → ∀ j y, X[j]? = some y → w.cell? (ad.add j) = some (.int k y)) := by
  rcases open_slice ht h with ⟨h1, _⟩ | ⟨a, len, cap, q, n, D, Pl, h1, _, hl, hmx, hq, _, hx⟩
  · simp only [List.cons.injEq, and_true] at h1
    exact ⟨none, 0, 0, [], h1, Nat.le_refl _, Nat.zero_le _, fun _ => ⟨rfl, rfl⟩, by simp, by simp, by simp⟩
  · simp only [List.cons.injEq, and_true] at h1
    have hlq : len ≤ q := by rw [hq]; split <;> omega
    have key : ∀ i j, i < len → j < m → ∃ y, w.cell? (a.add (i * m + j)) = some (.int k y) ∧ (Lit.int k y).wf = true := by
      intro i j hi hj
      obtain ⟨cs', h2, h3⟩ := hx i (by omega)
      rw [hc] at h2
      obtain ⟨_, _, h5⟩ := World.cells?_some h2
      obtain ⟨_, h6⟩ := open_array he hei hc1 hc h3
      obtain ⟨y, h7, h8⟩ := h6 j hj
      exact ⟨y, by rw [← add_add, h5 j hj, h7], h8⟩
    obtain ⟨f, hf⟩ := choose_lt (α := Int) (n := len * m) (p := fun j y => w.cell? (a.add j) = some (.int k y) ∧ (Lit.int k y).wf = true) (fun j hj => by
      have hd : j / m < len := (Nat.div_lt_iff_lt_mul hm).2 hj
      obtain ⟨y, h9, h10⟩ := key (j / m) (j % m) hd (Nat.mod_lt _ hm)
      rw [Nat.div_add_mod'] at h9
      exact ⟨y, h9, h10⟩)
    refine ⟨some a, len, cap, (List.range (len * m)).map f, h1, hl, hmx, (fun h => by cases h), by simp, ?_, ?_⟩
    · intro y hy
      obtain ⟨j, hj, rfl⟩ := List.mem_map.1 hy
      exact (hf j (by simpa using hj)).2
    · intro ad had j y hy
      cases had
      rw [List.getElem?_map] at hy
      cases hr : (List.range (len * m))[j]? with
      | none => rw [hr] at hy; cases hy
      | some j' =>
        have hj : j < len * m := by have := (List.getElem?_eq_some_iff.1 hr).1; simpa using this
        have : j' = j := by rw [List.getElem?_range hj] at hr; exact (Option.some.inj hr).symm
        subst this
        rw [hr] at hy
        simp only [Option.map_some, Option.some.injEq] at hy
        rw [← hy]
        exact (hf j' hj).1
end
end Go.Proofs.Ythjdpcgkkmfodaa.Arg
