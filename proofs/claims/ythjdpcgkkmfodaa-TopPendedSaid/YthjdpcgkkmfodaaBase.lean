/- Small facts on worlds that the walks of this seat use: what a call that makes memory keeps, and what stands behind stores. -/
import Derived.WalkKit
import Derived.Laws.AppendOwnNone
namespace Go.Proofs.Ythjdpcgkkmfodaa.Base
open Go.RowKit

/-- A call came to the value v and has left alone all memory that was there. -/
def New (w : World) (v : Value) (e : Ending) (w' : World) : Prop := e = .returned v ∧ Below w.heap.size w w'

theorem bcell {W w1 : World} (hb : Below W.heap.size W w1) : (∀ b o, b < W.heap.size → w1.cell? ⟨b, o, none⟩ = W.cell? ⟨b, o, none⟩) ∧ (∀ b o, b < W.heap.size → w1.frozen? ⟨b, o, none⟩ = W.frozen? ⟨b, o, none⟩) ∧ W.heap.size ≤ w1.heap.size :=
  ⟨fun b o h => hb.cell (p := ⟨b, o, none⟩) h, fun b o h => hb.frozen (p := ⟨b, o, none⟩) h, hb.size⟩

theorem new2 {w w1 : World} {o : Obj} (hb : Below (w.alloc o).heap.size (w.alloc o) w1) : Below w.heap.size w w1 :=
  ((Below.refl _ _).alloc (Nat.le_refl _) _).trans (hb.mono (by simp))
theorem new2d {w w1 : World} {o : Obj} (hb : Below (w.alloc o).drew.heap.size (w.alloc o).drew w1) : Below w.heap.size w w1 :=
  ((Below.refl _ _).alloc (Nat.le_refl _) _).drew.trans (hb.mono (by simp))
theorem new22 {w w1 : World} {o o' : Obj} (hb : Below ((w.alloc o).alloc o').heap.size ((w.alloc o).alloc o') w1) : Below w.heap.size w w1 :=
  (((Below.refl _ _).alloc (Nat.le_refl _) _).alloc (by simp) _).trans (hb.mono (by simp; omega))
theorem new3 {w w1 : World} {B : Nat} {o : Obj} (hb : Below B w w1) (hB : B ≤ w.heap.size) : Below B w (w1.alloc o) :=
  hb.alloc (Nat.le_trans hB hb.size) _
theorem newT {w w1 w2 : World} (hb1 : Below w.heap.size w w1) (hb2 : Below w1.heap.size w1 w2) : Below w.heap.size w w2 := hb1.trans (hb2.mono hb1.size)
theorem newTd {w w1 w2 : World} (hb1 : Below w.heap.size w w1) (hb2 : Below w1.drew.heap.size w1.drew w2) : Below w.heap.size w w2 := hb1.drew.trans (hb2.mono hb1.size)
theorem newTa {w w1 w2 : World} {o : Obj} (hb1 : Below w.heap.size w w1) (hb2 : Below (w1.alloc o).heap.size (w1.alloc o) w2) : Below w.heap.size w w2 := newT hb1 (new2 hb2)

@[go_sem] theorem isSome_setCell (w : World) (a b : Addr) (v : Value) : ((w.setCell a v).cell? b).isSome = (w.cell? b).isSome := by
  by_cases h : a = b
  · subst h
    cases hc : w.cell? a with
    | some u => rw [World.cell?_setCell_same _ _ _ hc]; rfl
    | none =>
      unfold World.cell? at hc ⊢
      simp only [World.setCell, Array.getElem?_modify, ↓reduceIte]
      cases hh : w.heap[a.block]? with
      | none => simp
      | some o =>
        rw [hh] at hc
        cases o <;> simp at hc ⊢
        split <;> simp_all
  · rw [World.cell?_setCell_other _ _ _ _ h]
@[go_sem] theorem cell_set_same {w : World} {a : Addr} {v : Value} (h : (w.cell? a).isSome = true) : (w.setCell a v).cell? a = some v := by
  obtain ⟨u, hu⟩ := Option.isSome_iff_exists.1 h
  exact World.cell?_setCell_same _ _ _ hu

/-- A variable of the call's own (block B) holds a slice that owns a row behind B; a value has been appended to that row, and the new slice goes back into the variable. -/
theorem own_step {wr w1 : World} {B e t size q q' : Nat} {v v' : Value} {xs ys : List Value} {o : Obj}
    (hv : wr.heap[B]? = some (.cells #[v] t (0, 0))) (hown : wr.ownsRow (B + 1) e size v q xs)
    (hown' : w1.ownsRow (B + 1) e size v' q' ys) (hg : (wr.alloc o).grownBy w1 v.ownBlock) :
    w1.cell? ⟨B, 0, none⟩ = some v ∧ w1.frozen? ⟨B, 0, none⟩ = false ∧ (w1.setCell ⟨B, 0, none⟩ v').heap[B]? = some (.cells #[v'] t (0, 0)) ∧
      (w1.setCell ⟨B, 0, none⟩ v').ownsRow (B + 1) e size v' q' ys ∧ Below B wr (w1.setCell ⟨B, 0, none⟩ v') ∧ wr.heap.size ≤ w1.heap.size := by
  have hBs := lt_of_block hv
  have hne : some B ≠ v.ownBlock := fun h => by have := (hown.lt B h.symm).1; omega
  have h1 : w1.heap[B]? = some (.cells #[v] t (0, 0)) := by
    rw [hg.block B (by simp; omega) hne, Below.heap_alloc _ _ _ hBs]; exact hv
  have hsz : wr.heap.size ≤ w1.heap.size := by have := hg.size; simp at this; omega
  refine ⟨cell_of_one h1, free_of_one h1, one_setCell h1, ownsRow_setCell_below hown' (by simp) _, ?_, hsz⟩
  have hb : Below B wr w1 := (((Below.refl B wr).alloc (by omega) o)).grown hg (by simp; omega) (fun k hk => by have := (hown.lt k hk).1; omega)
  exact hb.setCell (Nat.le_refl _) _
/-- An append of whatever slice (nil, empty, cut) onto a slice of the call's own. -/
theorem wpList_append_src {P : Program} {w : World} {ops : Array Oper} {rest : List Oper} {o : Oper} {a : Act} {Q : Exit → Act → World → Prop} (hgd : o.guard = none) (s x : Operand) (t : TypeId)
    (ho : o.op = .call { callee := .builtin .append, args := #[s, x], argTypes := #[t, t] })
    (base : Nat) (e : TypeId) (i : TypeInfo) (z : Value) (size bytes : Nat) (ht : P.underlying t = some (.slice e)) (hi : P.info? e = some i) (hz : i.zero = some z)
    (hsize : i.size = size) (hby : i.bytes = bytes) (hzs : z.cells.size = size) (hsz : 0 < size)
    (v : Value) (n : Nat) (xs : List Value) (hs : a.eval s = v) (hown : w.ownsRow base e size v n xs)
    (ao : Option Addr) (m c : Nat) (news : List Value) (hx : a.eval x = .slice ao m c) (hn : ao = none → m = 0 ∧ c = 0) (hl : news.length = m * size)
    (hnews : ∀ ad, ao = some ad → ∀ j u, news[j]? = some u → w.cell? (ad.add j) = some u) (h1 : ∀ u ∈ news, u.oneCell' = true)
    (h63 : n + m ≤ maxLen) (hbytes : (n + m) * bytes ≤ 140737488355328) (hbase : base ≤ w.heap.size)
    (h : ∀ v' w', w'.ownsRow base e size v' (n + m) (xs ++ news) → w.grownBy w' v.ownBlock → wpList P ops Q rest (a.put o.dst v') w') : wpList P ops Q (o :: rest) a w := by
  cases ao with
  | none =>
    obtain ⟨rfl, rfl⟩ := hn rfl
    have hnil : news = [] := List.eq_nil_of_length_eq_zero (by simpa using hl)
    subst hnil
    exact wpList_append_own_none hgd s x t ho base e i size ht hi v n xs hs hown hx (h v w (by simpa using hown) (World.grownBy.refl w _))
  | some ad =>
    exact wpList_append_own w hgd s x t ho base e i z size bytes ht hi hz hsize hby hzs hsz v n xs hs hown ad m c news hx hl (hnews ad rfl) h1 h63 hbytes hbase (fun v' w' h1 h2 _ => h v' w' h1 h2)
theorem own_lit {w : World} {base e size : Nat} (cs : Array Value) (g n : Nat) (xs : List Value) (hg : g = w.heap.size) (hx : xs = cs.toList) (hb : base ≤ w.heap.size) (hm : n ≤ maxLen) (hs : cs.size = n * size) :
    (w.alloc (.cells cs e)).ownsRow base e size (.slice (some ⟨g, 0, none⟩) n n) n xs := by
  subst hg hx
  exact World.ownsRow_lit w cs n hb hm hs
theorem own_shape {w : World} {B e size q : Nat} {v : Value} {xs : List Value} (h : w.ownsRow B e size v q xs) : ∃ g c, v = .slice g q c := by
  rcases h with ⟨_, ⟨rfl, h⟩ | ⟨g, cap, cur, rfl, _⟩⟩
  · exact ⟨none, 0, by rw [h]⟩
  · exact ⟨_, _, rfl⟩
/-- What an owned row's block holds is of the row's type. -/
theorem own_elem {w : World} {B e size q : Nat} {v : Value} {xs : List Value} (h : w.ownsRow B e size v q xs) : ∀ k, v.ownBlock = some k → ∃ c, w.heap[k]? = some (.cells c e (0, 0)) := by
  intro k hk
  rcases h.2 with ⟨rfl, _⟩ | ⟨g, cap, cur, rfl, _, hg, _⟩
  · simp [Value.ownBlock] at hk
  · simp [Value.ownBlock] at hk; subst hk; exact ⟨cur, hg⟩
theorem ownsRow_further {w w' : World} {B e size q : Nat} {v : Value} {xs : List Value} (h : w.ownsRow B e size v q xs) (hb : Below w.heap.size w w') : w'.ownsRow B e size v q xs :=
  h.kept (row := none) ⟨hb.os, hb.tape, hb.output, hb.size, fun k hk _ => hb.block k hk⟩ (by cases hv : v.ownBlock <;> simp)
theorem news3 (w : World) (a b c : Value) (t : TypeId) : ∀ j u, [a, b, c][j]? = some u → (w.alloc (.cells #[a, b, c] t)).cell? ((⟨w.heap.size, 0, none⟩ : Addr).add j) = some u := by
  intro j u hj
  match j, hj with
  | 0, hj => simp at hj; subst hj; simp [Addr.add]
  | 1, hj => simp at hj; subst hj; simp [Addr.add]
  | 2, hj => simp at hj; subst hj; simp [Addr.add]
theorem news1 (w : World) (a : Value) (t : TypeId) : ∀ j u, [a][j]? = some u → (w.alloc (.cells #[a] t)).cell? ((⟨w.heap.size, 0, none⟩ : Addr).add j) = some u := by
  intro j u hj
  match j, hj with
  | 0, hj => simp at hj; subst hj; simp [Addr.add]
theorem news1' (w : World) (a : Value) (t : TypeId) (g : Nat) (hg : g = w.heap.size) : ∀ j u, [a][j]? = some u → (w.alloc (.cells #[a] t)).cell? ((⟨g, 0, none⟩ : Addr).add j) = some u := by
  subst hg; exact news1 w a t
end Go.Proofs.Ythjdpcgkkmfodaa.Base
