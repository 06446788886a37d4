/- Small facts on worlds that the walks of this seat use: what a call that makes memory keeps, and what stands behind stores. -/
import Derived.WalkKit
namespace Go.Proofs.Ythjdpcgkkmfodaa.Base
open Go.RowKit

/-- A call came to the value v and has left alone all memory that was there. -/
def New (w : World) (v : Value) (e : Ending) (w' : World) : Prop := e = .returned v ∧ Below w.heap.size w w'

theorem bcell {W w1 : World} (hb : Below W.heap.size W w1) : (∀ b o, b < W.heap.size → w1.cell? ⟨b, o, none⟩ = W.cell? ⟨b, o, none⟩) ∧ (∀ b o, b < W.heap.size → w1.frozen? ⟨b, o, none⟩ = W.frozen? ⟨b, o, none⟩) ∧ W.heap.size ≤ w1.heap.size :=
  ⟨fun b o h => hb.cell (p := ⟨b, o, none⟩) h, fun b o h => hb.frozen (p := ⟨b, o, none⟩) h, hb.size⟩

theorem new2 {w w1 : World} {o : Obj} (hb : Below (w.alloc o).heap.size (w.alloc o) w1) : Below w.heap.size w w1 :=
  ((Below.refl _ _).alloc (Nat.le_refl _) _).trans (hb.mono (by simp))
theorem new2d {w w1 : World} {o : Obj} (hb : Below (w.alloc o).drew.heap.size (w.alloc o).drew w1) : Below w.heap.size w w1 :=
  ((Below.refl _ _).alloc (Nat.le_refl _) _).drew.trans (hb.mono (by simp))
theorem new22 {w w1 : World} {o o' : Obj} (hb : Below ((w.alloc o).alloc o').heap.size ((w.alloc o).alloc o') w1) : Below w.heap.size w w1 :=
  (((Below.refl _ _).alloc (Nat.le_refl _) _).alloc (by simp) _).trans (hb.mono (by simp; omega))
theorem new3 {w w1 : World} {B : Nat} {o : Obj} (hb : Below B w w1) (hB : B ≤ w.heap.size) : Below B w (w1.alloc o) :=
  hb.alloc (Nat.le_trans hB hb.size) _
theorem newT {w w1 w2 : World} (hb1 : Below w.heap.size w w1) (hb2 : Below w1.heap.size w1 w2) : Below w.heap.size w w2 := hb1.trans (hb2.mono hb1.size)
theorem newTd {w w1 w2 : World} (hb1 : Below w.heap.size w w1) (hb2 : Below w1.drew.heap.size w1.drew w2) : Below w.heap.size w w2 := hb1.drew.trans (hb2.mono hb1.size)
theorem newTa {w w1 w2 : World} {o : Obj} (hb1 : Below w.heap.size w w1) (hb2 : Below (w1.alloc o).heap.size (w1.alloc o) w2) : Below w.heap.size w w2 := newT hb1 (new2 hb2)

@[go_sem] theorem isSome_setCell (w : World) (a b : Addr) (v : Value) : ((w.setCell a v).cell? b).isSome = (w.cell? b).isSome := by
  by_cases h : a = b
  · subst h
    cases hc : w.cell? a with
    | some u => rw [World.cell?_setCell_same _ _ _ hc]; rfl
    | none =>
      unfold World.cell? at hc ⊢
      simp only [World.setCell, Array.getElem?_modify, ↓reduceIte]
      cases hh : w.heap[a.block]? with
      | none => simp
      | some o =>
        rw [hh] at hc
        cases o <;> simp at hc ⊢
        split <;> simp_all
  · rw [World.cell?_setCell_other _ _ _ _ h]
@[go_sem] theorem cell_set_same {w : World} {a : Addr} {v : Value} (h : (w.cell? a).isSome = true) : (w.setCell a v).cell? a = some v := by
  obtain ⟨u, hu⟩ := Option.isSome_iff_exists.1 h
  exact World.cell?_setCell_same _ _ _ hu

/-- A variable of the call's own (block B) holds a slice that owns a row behind B; a value has been appended to that row, and the new slice goes back into the variable. -/
theorem own_step {wr w1 : World} {B e t size q q' : Nat} {v v' : Value} {xs ys : List Value} {o : Obj}
    (hv : wr.heap[B]? = some (.cells #[v] t (0, 0))) (hown : wr.ownsRow (B + 1) e size v q xs)
    (hown' : w1.ownsRow (B + 1) e size v' q' ys) (hg : (wr.alloc o).grownBy w1 v.ownBlock) :
    w1.cell? ⟨B, 0, none⟩ = some v ∧ w1.frozen? ⟨B, 0, none⟩ = false ∧ (w1.setCell ⟨B, 0, none⟩ v').heap[B]? = some (.cells #[v'] t (0, 0)) ∧
      (w1.setCell ⟨B, 0, none⟩ v').ownsRow (B + 1) e size v' q' ys ∧ Below B wr (w1.setCell ⟨B, 0, none⟩ v') ∧ wr.heap.size ≤ w1.heap.size := by
  have hBs := lt_of_block hv
  have hne : some B ≠ v.ownBlock := fun h => by have := (hown.lt B h.symm).1; omega
  have h1 : w1.heap[B]? = some (.cells #[v] t (0, 0)) := by
    rw [hg.block B (by simp; omega) hne, Below.heap_alloc _ _ _ hBs]; exact hv
  have hsz : wr.heap.size ≤ w1.heap.size := by have := hg.size; simp at this; omega
  refine ⟨cell_of_one h1, free_of_one h1, one_setCell h1, ownsRow_setCell_below hown' (by simp) _, ?_, hsz⟩
  have hb : Below B wr w1 := (((Below.refl B wr).alloc (by omega) o)).grown hg (by simp; omega) (fun k hk => by have := (hown.lt k hk).1; omega)
  exact hb.setCell (Nat.le_refl _) _
theorem own_shape {w : World} {B e size q : Nat} {v : Value} {xs : List Value} (h : w.ownsRow B e size v q xs) : ∃ g c, v = .slice g q c := by
  rcases h with ⟨_, ⟨rfl, h⟩ | ⟨g, cap, cur, rfl, _⟩⟩
  · exact ⟨none, 0, by rw [h]⟩
  · exact ⟨_, _, rfl⟩
theorem news3 (w : World) (a b c : Value) (t : TypeId) : ∀ j u, [a, b, c][j]? = some u → (w.alloc (.cells #[a, b, c] t)).cell? ((⟨w.heap.size, 0, none⟩ : Addr).add j) = some u := by
  intro j u hj
  match j, hj with
  | 0, hj => simp at hj; subst hj; simp [Addr.add]
  | 1, hj => simp at hj; subst hj; simp [Addr.add]
  | 2, hj => simp at hj; subst hj; simp [Addr.add]
theorem news1 (w : World) (a : Value) (t : TypeId) : ∀ j u, [a][j]? = some u → (w.alloc (.cells #[a] t)).cell? ((⟨w.heap.size, 0, none⟩ : Addr).add j) = some u := by
  intro j u hj
  match j, hj with
  | 0, hj => simp at hj; subst hj; simp [Addr.add]
end Go.Proofs.Ythjdpcgkkmfodaa.Base
