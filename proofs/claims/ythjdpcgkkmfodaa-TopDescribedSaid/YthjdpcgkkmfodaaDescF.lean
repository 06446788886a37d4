/- TopDescribed: what the two tables have in common, and that each call keeps it. No walk here. -/
import Derived.Test.YthjdpcgkkmfodaaDescE
namespace Go.Proofs.Ythjdpcgkkmfodaa.Desc
open Go.RowKit Go.Proofs.Ythjdpcgkkmfodaa.Base
set_option linter.unusedVariables false
set_option linter.unusedSimpArgs false

/-- The table (block T) and the numbers that are kept by hand (block N) lead to files of the same contents, shared alike, and no file is in both. -/
structure Inv (T N : Nat) (tf nf : Nat → Option Nat) (w : World) : Prop where
  tab : Tab 72 T w tf
  num : Tab 41 N w nf
  same : ∀ k, k < 8 → (tf k = none ↔ nf k = none)
  both : ∀ k a b, k < 8 → tf k = some a → nf k = some b → ∃ c, FileAt w a c ∧ FileAt w b c
  share : ∀ j k a a' b b', j < 8 → k < 8 → tf j = some a → tf k = some a' → nf j = some b → nf k = some b' → (a = a' ↔ b = b')
  apart : ∀ j k a b, j < 8 → k < 8 → tf j = some a → nf k = some b → a ≠ b

theorem Inv.file_t {T N : Nat} {tf nf : Nat → Option Nat} {w : World} (h : Inv T N tf nf w) {k a : Nat} (hk : k < 8) (ha : tf k = some a) : ∃ c, FileAt w a c := by
  cases hn : nf k with
  | none => rw [(h.same k hk).2 hn] at ha; cases ha
  | some b => obtain ⟨c, h1, _⟩ := h.both k a b hk ha hn; exact ⟨c, h1⟩
theorem Inv.file_n {T N : Nat} {tf nf : Nat → Option Nat} {w : World} (h : Inv T N tf nf w) {k b : Nat} (hk : k < 8) (hb : nf k = some b) : ∃ c, FileAt w b c := by
  cases hn : tf k with
  | none => rw [(h.same k hk).1 hn] at hb; cases hb
  | some a => obtain ⟨c, _, h2⟩ := h.both k a b hk hn hb; exact ⟨c, h2⟩
theorem FileAt.cellsOf {w : World} {b : Nat} {c : Int × Int × Int} (h : FileAt w b c) : ∃ c t, w.heap[b]? = some (.cells c t (0, 0)) := ⟨_, _, h⟩
theorem Inv.cells_t {T N : Nat} {tf nf : Nat → Option Nat} {w : World} (h : Inv T N tf nf w) : ∀ k, k < 8 → Cells w (tf k) := by
  intro k hk b hb
  obtain ⟨c, hc⟩ := h.file_t hk hb
  exact hc.cellsOf
theorem Inv.cells_n {T N : Nat} {tf nf : Nat → Option Nat} {w : World} (h : Inv T N tf nf w) : ∀ k, k < 8 → Cells w (nf k) := by
  intro k hk b hb
  obtain ⟨c, hc⟩ := h.file_n hk hb
  exact hc.cellsOf

theorem differ {w : World} {a b : Nat} {c c' : Array Value} {t t' : TypeId} {f f' : Nat × Nat} (ha : w.heap[a]? = some (.cells c t f)) (hb : w.heap[b]? = some (.cells c' t' f')) (ht : t ≠ t') : a ≠ b := by
  intro e; subst e; rw [ha] at hb; simp at hb; exact ht hb.2.1

/-- What of a world the invariant looks at is unchanged. -/
theorem Inv.far {T N : Nat} {tf nf : Nat → Option Nat} {w w' : World} (h : Inv T N tf nf w) (hw : ∀ k, k < w.heap.size → w'.heap[k]? = w.heap[k]?) : Inv T N tf nf w' := by
  have hf : ∀ a c, FileAt w a c → FileAt w' a c := fun a c hc => (hw a hc.lt).trans hc
  refine ⟨h.tab.far (hw T h.tab.lt), h.num.far (hw N h.num.lt), h.same, fun k a b hk ha hb => ?_, h.share, h.apart⟩
  obtain ⟨c, h1, h2⟩ := h.both k a b hk ha hb
  exact ⟨c, hf a c h1, hf b c h2⟩
theorem Inv.alloc {T N : Nat} {tf nf : Nat → Option Nat} {w : World} (h : Inv T N tf nf w) (o : Obj) : Inv T N tf nf (w.alloc o) := h.far (fun k hk => heap_alloc_old w o hk)
theorem Inv.drew {T N : Nat} {tf nf : Nat → Option Nat} {w : World} (h : Inv T N tf nf w) : Inv T N tf nf w.drew := h.far (fun _ _ => rfl)
theorem Inv.below {T N : Nat} {tf nf : Nat → Option Nat} {w w' : World} (h : Inv T N tf nf w) (hb : Below w.heap.size w w') : Inv T N tf nf w' := h.far hb.block

theorem setCell_far (w : World) (a : Addr) (v : Value) (k : Nat) (h : k ≠ a.block) : (w.setCell a v).heap[k]? = w.heap[k]? := Below.heap_setCell w a v k h
theorem FileAt.set {w : World} {b : Nat} {c : Int × Int × Int} (h : FileAt w b c) (a : Addr) (v : Value) (hb : b ≠ a.block) : FileAt (w.setCell a v) b c := (setCell_far w a v b hb).trans h
theorem FileAt.newb {w : World} {b : Nat} {c : Int × Int × Int} (h : FileAt w b c) (o : Obj) : FileAt (w.alloc o) b c := (heap_alloc_old w o h.lt).trans h
theorem FileAt.ne_tab {w : World} {b T t : Nat} {f : Nat → Option Nat} {c : Int × Int × Int} (h : FileAt w b c) (hT : Tab t T w f) (ht : t ≠ 47) : b ≠ T := fun e => differ hT h ht e.symm
theorem Tab.setFar {t T : Nat} {w : World} {f : Nat → Option Nat} (h : Tab t T w f) (a : Addr) (v : Value) (hb : T ≠ a.block) : Tab t T (w.setCell a v) f := h.far (setCell_far w a v T hb)
theorem Tab.newb {t T : Nat} {w : World} {f : Nat → Option Nat} (h : Tab t T w f) (o : Obj) : Tab t T (w.alloc o) f := h.far (heap_alloc_old w o h.lt)

theorem upd_at (f : Nat → Option Nat) (k : Nat) (x : Option Nat) : upd f k x k = x := by simp [upd]
theorem upd_ne (f : Nat → Option Nat) {k j : Nat} (x : Option Nat) (h : j ≠ k) : upd f k x j = f j := by simp [upd, h]

/-- Both tables get a number k: the new file A, and the new file Y. -/
theorem Inv.put {T N : Nat} {tf nf : Nat → Option Nat} {w : World} (h : Inv T N tf nf w) {k A Y : Nat} (hk : k < 8) {w' : World} {c : Int × Int × Int}
    (hA : FileAt w' A c) (hY : FileAt w' Y c) (hAY : A ≠ Y) (hAn : ∀ j, j < 8 → tf j ≠ some A ∧ nf j ≠ some A) (hYn : ∀ j, j < 8 → tf j ≠ some Y ∧ nf j ≠ some Y)
    (hT : Tab 72 T w' (upd tf k (some A))) (hN : Tab 41 N w' (upd nf k (some Y))) (hf : ∀ b c, FileAt w b c → FileAt w' b c) : Inv T N (upd tf k (some A)) (upd nf k (some Y)) w' := by
  refine ⟨hT, hN, fun j hj => ?_, fun j a b hj ha hb => ?_, fun i j a a' b b' hi hj ha ha' hb hb' => ?_, fun i j a b hi hj ha hb => ?_⟩
  · by_cases e : j = k
    · subst e; simp [upd_at]
    · rw [upd_ne _ _ e, upd_ne _ _ e]; exact h.same j hj
  · by_cases e : j = k
    · subst e; rw [upd_at] at ha hb; cases ha; cases hb; exact ⟨c, hA, hY⟩
    · rw [upd_ne _ _ e] at ha hb
      obtain ⟨c', h1, h2⟩ := h.both j a b hj ha hb
      exact ⟨c', hf _ _ h1, hf _ _ h2⟩
  · by_cases e : i = k <;> by_cases e' : j = k
    · subst e; subst e'; rw [upd_at] at ha hb ha' hb'; cases ha; cases hb; cases ha'; cases hb'; simp
    · subst e; rw [upd_at] at ha hb; rw [upd_ne _ _ e'] at ha' hb'; cases ha; cases hb
      exact ⟨fun q => absurd (q ▸ ha') (hAn j hj).1, fun q => absurd (q ▸ hb') (hYn j hj).2⟩
    · subst e'; rw [upd_at] at ha' hb'; rw [upd_ne _ _ e] at ha hb; cases ha'; cases hb'
      exact ⟨fun q => absurd (q ▸ ha) (hAn i hi).1, fun q => absurd (q ▸ hb) (hYn i hi).2⟩
    · rw [upd_ne _ _ e] at ha hb; rw [upd_ne _ _ e'] at ha' hb'; exact h.share i j a a' b b' hi hj ha ha' hb hb'
  · by_cases e : i = k <;> by_cases e' : j = k
    · subst e; subst e'; rw [upd_at] at ha hb; cases ha; cases hb; exact hAY
    · subst e; rw [upd_at] at ha; rw [upd_ne _ _ e'] at hb; cases ha; exact fun q => (hAn j hj).2 (q ▸ hb)
    · subst e'; rw [upd_at] at hb; rw [upd_ne _ _ e] at ha; cases hb; exact fun q => (hYn i hi).1 (q ▸ ha)
    · rw [upd_ne _ _ e] at ha; rw [upd_ne _ _ e'] at hb; exact h.apart i j a b hi hj ha hb

/-- A number k is made of another one, m: both lead to what m leads to. -/
theorem Inv.dup {T N : Nat} {tf nf : Nat → Option Nat} {w : World} (h : Inv T N tf nf w) {k m a b : Nat} (hk : k < 8) (hm : m < 8) (hfree : tf k = none) (ha : tf m = some a) (hb : nf m = some b) {w' : World}
    (hT : Tab 72 T w' (upd tf k (some a))) (hN : Tab 41 N w' (upd nf k (some b))) (hf : ∀ b c, FileAt w b c → FileAt w' b c) : Inv T N (upd tf k (some a)) (upd nf k (some b)) w' := by
  have from_ : ∀ j x, j < 8 → upd tf k (some a) j = some x → ∃ j', j' < 8 ∧ tf j' = some x ∧ upd nf k (some b) j = nf j' := by
    intro j x hj hx
    by_cases e : j = k
    · subst e; rw [upd_at] at hx; cases hx; exact ⟨m, hm, ha, by rw [upd_at, hb]⟩
    · rw [upd_ne _ _ e] at hx; exact ⟨j, hj, hx, by rw [upd_ne _ _ e]⟩
  refine ⟨hT, hN, fun j hj => ?_, fun j x y hj hx hy => ?_, fun i j x x' y y' hi hj hx hx' hy hy' => ?_, fun i j x y hi hj hx hy => ?_⟩
  · by_cases e : j = k
    · subst e; simp [upd_at]
    · rw [upd_ne _ _ e, upd_ne _ _ e]; exact h.same j hj
  · obtain ⟨j', hj', h1, h2⟩ := from_ j x hj hx
    rw [h2] at hy
    obtain ⟨c, p, q⟩ := h.both j' x y hj' h1 hy
    exact ⟨c, hf _ _ p, hf _ _ q⟩
  · obtain ⟨i', hi', h1, h2⟩ := from_ i x hi hx
    obtain ⟨j', hj', h3, h4⟩ := from_ j x' hj hx'
    rw [h2] at hy; rw [h4] at hy'
    exact h.share i' j' x x' y y' hi' hj' h1 h3 hy hy'
  · obtain ⟨i', hi', h1, _⟩ := from_ i x hi hx
    by_cases e : j = k
    · subst e; rw [upd_at] at hy; cases hy; exact h.apart i' m x b hi' hm h1 hb
    · rw [upd_ne _ _ e] at hy; exact h.apart i' j x y hi' hj h1 hy

/-- A number k is closed. -/
theorem Inv.close {T N : Nat} {tf nf : Nat → Option Nat} {w : World} (h : Inv T N tf nf w) {k : Nat} (hk : k < 8) {w' : World}
    (hT : Tab 72 T w' (upd tf k none)) (hN : Tab 41 N w' (upd nf k none)) (hf : ∀ b c, FileAt w b c → FileAt w' b c) : Inv T N (upd tf k none) (upd nf k none) w' := by
  have from_ : ∀ (g : Nat → Option Nat) j x, upd g k none j = some x → j ≠ k ∧ g j = some x := by
    intro g j x hx
    by_cases e : j = k
    · subst e; rw [upd_at] at hx; cases hx
    · rw [upd_ne _ _ e] at hx; exact ⟨e, hx⟩
  refine ⟨hT, hN, fun j hj => ?_, fun j x y hj hx hy => ?_, fun i j x x' y y' hi hj hx hx' hy hy' => ?_, fun i j x y hi hj hx hy => ?_⟩
  · by_cases e : j = k
    · subst e; simp [upd_at]
    · rw [upd_ne _ _ e, upd_ne _ _ e]; exact h.same j hj
  · obtain ⟨c, p, q⟩ := h.both j x y hj (from_ tf j x hx).2 (from_ nf j y hy).2
    exact ⟨c, hf _ _ p, hf _ _ q⟩
  · exact h.share i j x x' y y' hi hj (from_ tf i x hx).2 (from_ tf j x' hx').2 (from_ nf i y hy).2 (from_ nf j y' hy').2
  · exact h.apart i j x y hi hj (from_ tf i x hx).2 (from_ nf j y hy).2

/-- Whether anything else leads there: alike in both tables. -/
theorem Inv.last {T N : Nat} {tf nf : Nat → Option Nat} {w : World} (h : Inv T N tf nf w) {k a b : Nat} (hk : k < 8) (ha : tf k = some a) (hb : nf k = some b) :
    (idx (upd tf k none) (some a)).isSome = (idx (upd nf k none) (some b)).isSome := by
  have key : ∀ j, j < 8 → (upd tf k none j = some a ↔ upd nf k none j = some b) := by
    intro j hj
    by_cases e : j = k
    · subst e; simp [upd_at]
    · rw [upd_ne _ _ e, upd_ne _ _ e]
      constructor
      · intro hx
        cases hn : nf j with
        | none => rw [(h.same j hj).2 hn] at hx; cases hx
        | some y => rw [(h.share j k a a y b hj hk hx ha hn hb).1 rfl]
      · intro hy
        cases ht : tf j with
        | none => rw [(h.same j hj).1 ht] at hy; cases hy
        | some x => rw [(h.share j k x a b b hj hk ht ha hy hb).2 rfl]
  unfold idx
  rw [Bool.eq_iff_iff, List.find?_isSome, List.find?_isSome]
  constructor
  · rintro ⟨j, hj, h1⟩
    exact ⟨j, hj, by simpa using (key j (by simpa using hj)).1 (by simpa using h1)⟩
  · rintro ⟨j, hj, h1⟩
    exact ⟨j, hj, by simpa using (key j (by simpa using hj)).2 (by simpa using h1)⟩

/-- One file's offset is set in both. -/
theorem Inv.move {T N : Nat} {tf nf : Nat → Option Nat} {w : World} (h : Inv T N tf nf w) {k a b : Nat} {x y z : Int} (hk : k < 8) (ha : tf k = some a) (hb : nf k = some b) (hFa : FileAt w a (x, y, z)) (hFb : FileAt w b (x, y, z)) (z' : Int) :
    Inv T N tf nf ((w.setCell ⟨b, 5, none⟩ (.int .i64 z')).setCell ⟨a, 5, none⟩ (.int .i64 z')) := by
  have hab : a ≠ b := h.apart k k a b hk hk ha hb
  have hTa : T ≠ a := (hFa.ne_tab h.tab (by decide)).symm
  have hTb : T ≠ b := (hFb.ne_tab h.tab (by decide)).symm
  have hNa : N ≠ a := (hFa.ne_tab h.num (by decide)).symm
  have hNb : N ≠ b := (hFb.ne_tab h.num (by decide)).symm
  have ga : FileAt ((w.setCell ⟨b, 5, none⟩ (.int .i64 z')).setCell ⟨a, 5, none⟩ (.int .i64 z')) a (x, y, z') := (hFa.set ⟨b, 5, none⟩ _ hab).move z'
  have gb : FileAt ((w.setCell ⟨b, 5, none⟩ (.int .i64 z')).setCell ⟨a, 5, none⟩ (.int .i64 z')) b (x, y, z') := (hFb.move z').set ⟨a, 5, none⟩ _ hab.symm
  refine ⟨(h.tab.setFar _ _ hTb).setFar _ _ hTa, (h.num.setFar _ _ hNb).setFar _ _ hNa, h.same, fun j p q hj hp hq => ?_, h.share, h.apart⟩
  by_cases e : p = a
  · subst e
    have : q = b := (h.share j k p p q b hj hk hp ha hq hb).1 rfl
    subst this
    exact ⟨_, ga, gb⟩
  · have hqb : q ≠ b := fun e' => e ((h.share j k p a q b hj hk hp ha hq hb).2 e')
    obtain ⟨c, h1, h2⟩ := h.both j p q hj hp hq
    exact ⟨c, (h1.set _ _ (fun e' => h.apart j k p b hj hk hp hb e')).set _ _ e, (h2.set _ _ hqb).set _ _ (fun e' => h.apart k j a q hk hj ha hq e'.symm)⟩
/-- What a number of the round leads to. -/
def look (f : Nat → Option Nat) (d : Int) : Option Nat := if 1 ≤ d ∧ d ≤ 8 then f (d - 1).toNat else none
theorem look_in {f : Nat → Option Nat} {d : Int} (h : 1 ≤ d ∧ d ≤ 8) : look f d = f (d - 1).toNat := by unfold look; rw [if_pos h]
theorem look_out {f : Nat → Option Nat} {d : Int} (h : ¬ (1 ≤ d ∧ d ≤ 8)) : look f d = none := by unfold look; rw [if_neg h]
theorem row_at {cur : Array Value} {X : List Int} {M : Nat} (h : cur.toList.take (M * 2) = (X.map (Value.int .u8))) (hl : X.length = M * 2) (hb : ∀ x ∈ X, 0 ≤ x ∧ x ≤ 255) {k : Nat} (hk : k < M) :
    ∃ a b : Int, cur[k * 2]? = some (.int .u8 a) ∧ cur[k * 2 + 1]? = some (.int .u8 b) ∧ 0 ≤ a ∧ a ≤ 255 ∧ 0 ≤ b ∧ b ≤ 255 := by
  have key : ∀ j, j < M * 2 → ∃ a, X[j]? = some a ∧ cur[j]? = some (.int .u8 a) ∧ 0 ≤ a ∧ a ≤ 255 := by
    intro j hj
    obtain ⟨a, ha⟩ : ∃ a, X[j]? = some a := ⟨X[j], by simp [hl, hj]⟩
    refine ⟨a, ha, ?_, hb a (List.mem_of_getElem? ha)⟩
    have : (cur.toList.take (M * 2))[j]? = some (.int .u8 a) := by rw [h]; simp [ha]
    rw [List.getElem?_take, if_pos hj] at this
    simpa using this
  obtain ⟨a, _, h1, h2⟩ := key (k * 2) (by omega)
  obtain ⟨b, _, h3, h4⟩ := key (k * 2 + 1) (by omega)
  exact ⟨a, b, h1, h3, h2.1, h2.2, h4.1, h4.2⟩

theorem look_some {f : Nat → Option Nat} {d : Int} {x : Nat} (h : look f d = some x) : ∃ j : Nat, j < 8 ∧ d - 1 = (j : Int) ∧ f j = some x := by
  unfold look at h
  split at h
  · exact ⟨(d - 1).toNat, by omega, by omega, h⟩
  · cases h
theorem look_none {f g : Nat → Option Nat} {d : Int} (h : look f d = none) (hs : ∀ k, k < 8 → (g k = none ↔ f k = none)) : d - 1 < 0 ∨ 8 ≤ d - 1 ∨ g (d - 1).toNat = none := by
  unfold look at h
  split at h
  · exact .inr (.inr ((hs _ (by omega)).2 h))
  · omega

/-- All that a round keeps: the two tables agree, the row of the calls is as it was, and below W0 nothing has turned. -/
structure St (W0 : World) (B g : Nat) (cur : Array Value) (tf nf : Nat → Option Nat) (w : World) : Prop where
  inv : Inv B (B + 1) tf nf w
  row : w.heap[g]? = some (.cells cur 42 (0, 0))
  below : Below W0.heap.size W0 w
  base : W0.heap.size ≤ B
  high : ∀ k b, k < 8 → (tf k = some b ∨ nf k = some b) → W0.heap.size ≤ b
def Fin (W0 : World) (B g : Nat) (cur : Array Value) (w : World) : Prop := ∃ tf nf, St W0 B g cur tf nf w
theorem St.fin {W0 : World} {B g : Nat} {cur : Array Value} {tf nf : Nat → Option Nat} {w : World} (h : St W0 B g cur tf nf w) : Fin W0 B g cur w := ⟨_, _, h⟩
theorem St.alloc {W0 : World} {B g : Nat} {cur : Array Value} {tf nf : Nat → Option Nat} {w : World} (h : St W0 B g cur tf nf w) (o : Obj) : St W0 B g cur tf nf (w.alloc o) :=
  ⟨h.inv.alloc o, (heap_alloc_old w o (lt_of_block h.row)).trans h.row, h.below.alloc h.below.size o, h.base, h.high⟩
theorem St.drew {W0 : World} {B g : Nat} {cur : Array Value} {tf nf : Nat → Option Nat} {w : World} (h : St W0 B g cur tf nf w) : St W0 B g cur tf nf w.drew := ⟨h.inv.drew, h.row, h.below.drew, h.base, h.high⟩
theorem St.drewN {W0 : World} {B g : Nat} {cur : Array Value} {tf nf : Nat → Option Nat} {w : World} (h : St W0 B g cur tf nf w) (n : Nat) : St W0 B g cur tf nf (w.drewN n) := ⟨h.inv.far (fun _ _ => rfl), h.row, below_drewN h.below n, h.base, h.high⟩
theorem St.further {W0 : World} {B g : Nat} {cur : Array Value} {tf nf : Nat → Option Nat} {w w' : World} (h : St W0 B g cur tf nf w) (hb : Below w.heap.size w w') : St W0 B g cur tf nf w' :=
  ⟨h.inv.below hb, (hb.block g (lt_of_block h.row)).trans h.row, h.below.trans (hb.mono h.below.size), h.base, h.high⟩
theorem St.rowSet {W0 : World} {B g : Nat} {cur : Array Value} {tf nf : Nat → Option Nat} {w : World} (h : St W0 B g cur tf nf w) {w' : World} (hw : w'.heap[g]? = some (.cells cur 42 (0, 0))) (a : Addr) (v : Value) (ha : g ≠ a.block) : (w'.setCell a v).heap[g]? = some (.cells cur 42 (0, 0)) := (setCell_far w' a v g ha).trans hw
theorem St.gB {W0 : World} {B g : Nat} {cur : Array Value} {tf nf : Nat → Option Nat} {w : World} (h : St W0 B g cur tf nf w) : g ≠ B ∧ g ≠ B + 1 := ⟨differ h.row h.inv.tab (by decide), differ h.row h.inv.num (by decide)⟩
theorem St.gF {W0 : World} {B g : Nat} {cur : Array Value} {tf nf : Nat → Option Nat} {w : World} (h : St W0 B g cur tf nf w) {b : Nat} {c : Int × Int × Int} (hF : FileAt w b c) : g ≠ b := differ h.row hF (by decide)

/-- A new file in both tables, by one number. -/
theorem St.opened {W0 : World} {B g : Nat} {cur : Array Value} {tf nf : Nat → Option Nat} {w : World} (h : St W0 B g cur tf nf w) {m : Nat} (hm : m < 8) (o : Obj) (x y z : Int) :
    St W0 B g cur (upd tf m (some (w.heap.size + 1 + 1))) (upd nf m (some (w.heap.size + 1)))
      (((((w.setCell ⟨B, m, none⟩ (ptr (some (w.heap.size + 1 + 1)))).setCell ⟨B + 1, m, none⟩ (ptr (some (w.heap.size + 1)))).alloc o).alloc (.cells (fileC x y z) 47)).alloc (.cells (fileC x y z) 47)) := by
  obtain ⟨g1, g2⟩ := h.gB
  have hs := h.inv.tab.lt
  have hs2 := h.inv.num.lt
  have old : ∀ b c, FileAt w b c → FileAt (((((w.setCell ⟨B, m, none⟩ (ptr (some (w.heap.size + 1 + 1)))).setCell ⟨B + 1, m, none⟩ (ptr (some (w.heap.size + 1)))).alloc o).alloc (.cells (fileC x y z) 47)).alloc (.cells (fileC x y z) 47)) b c := by
    intro b c hF
    exact ((((hF.set _ _ (hF.ne_tab h.inv.tab (by decide))).set _ _ (hF.ne_tab h.inv.num (by decide))).newb _).newb _).newb _
  refine ⟨h.inv.put hm (c := (x, y, z)) ?_ ?_ (by omega) ?_ ?_ ?_ ?_ old, ?_, ?_, h.base, ?_⟩
  · unfold FileAt
    have := heap_alloc_new ((((w.setCell ⟨B, m, none⟩ (ptr (some (w.heap.size + 1 + 1)))).setCell ⟨B + 1, m, none⟩ (ptr (some (w.heap.size + 1)))).alloc o).alloc (.cells (fileC x y z) 47)) (.cells (fileC x y z) 47)
    simpa only [World.size_alloc, World.size_setCell] using this
  · have : FileAt ((((w.setCell ⟨B, m, none⟩ (ptr (some (w.heap.size + 1 + 1)))).setCell ⟨B + 1, m, none⟩ (ptr (some (w.heap.size + 1)))).alloc o).alloc (.cells (fileC x y z) 47)) (w.heap.size + 1) (x, y, z) := by
      unfold FileAt
      have := heap_alloc_new (((w.setCell ⟨B, m, none⟩ (ptr (some (w.heap.size + 1 + 1)))).setCell ⟨B + 1, m, none⟩ (ptr (some (w.heap.size + 1)))).alloc o) (.cells (fileC x y z) 47)
      simpa only [World.size_alloc, World.size_setCell] using this
    exact this.newb _
  · intro j hj
    refine ⟨fun e => ?_, fun e => ?_⟩
    · obtain ⟨c, hc⟩ := h.inv.file_t hj e; have := hc.lt; omega
    · obtain ⟨c, hc⟩ := h.inv.file_n hj e; have := hc.lt; omega
  · intro j hj
    refine ⟨fun e => ?_, fun e => ?_⟩
    · obtain ⟨c, hc⟩ := h.inv.file_t hj e; have := hc.lt; omega
    · obtain ⟨c, hc⟩ := h.inv.file_n hj e; have := hc.lt; omega
  · exact ((((h.inv.tab.set m hm _).setFar _ _ (by simp)).newb _).newb _).newb _
  · exact ((((h.inv.num.setFar _ _ (by simp)).set m hm _).newb _).newb _).newb _
  · have r1 := h.rowSet (h.rowSet h.row ⟨B, m, none⟩ (ptr (some (w.heap.size + 1 + 1))) g1) ⟨B + 1, m, none⟩ (ptr (some (w.heap.size + 1))) g2
    have r2 := (heap_alloc_old _ o (lt_of_block r1)).trans r1
    have r3 := (heap_alloc_old _ (.cells (fileC x y z) 47) (lt_of_block r2)).trans r2
    exact (heap_alloc_old _ (.cells (fileC x y z) 47) (lt_of_block r3)).trans r3
  · have b1 := (h.below.setCell (p := ⟨B, m, none⟩) h.base (ptr (some (w.heap.size + 1 + 1)))).setCell (p := ⟨B + 1, m, none⟩) (by have := h.base; show W0.heap.size ≤ B + 1; omega) (ptr (some (w.heap.size + 1)))
    have b2 := b1.alloc b1.size o
    have b3 := b2.alloc b2.size (.cells (fileC x y z) 47)
    exact b3.alloc b3.size _
  · intro j b hj hb
    have := h.below.size
    by_cases e : j = m
    · subst e; rw [upd_at, upd_at] at hb; rcases hb with hb | hb <;> cases hb <;> omega
    · rw [upd_ne _ _ e, upd_ne _ _ e] at hb; exact h.high j b hj hb
/-- A file's offset in both. -/
theorem St.moved {W0 : World} {B g : Nat} {cur : Array Value} {tf nf : Nat → Option Nat} {w : World} (h : St W0 B g cur tf nf w) {k a b : Nat} {x y z : Int} (hk : k < 8) (ha : tf k = some a) (hb : nf k = some b) (hFa : FileAt w a (x, y, z)) (hFb : FileAt w b (x, y, z)) (z' : Int)
    : St W0 B g cur tf nf ((w.setCell ⟨b, 5, none⟩ (.int .i64 z')).setCell ⟨a, 5, none⟩ (.int .i64 z')) :=
  ⟨h.inv.move hk ha hb hFa hFb z', h.rowSet (h.rowSet h.row _ _ (h.gF hFb)) _ _ (h.gF hFa), (h.below.setCell (p := ⟨b, 5, none⟩) (h.high k b hk (.inr hb)) _).setCell (p := ⟨a, 5, none⟩) (h.high k a hk (.inl ha)) _, h.base, h.high⟩
/-- A number made of another one. -/
theorem St.duped {W0 : World} {B g : Nat} {cur : Array Value} {tf nf : Nat → Option Nat} {w : World} (h : St W0 B g cur tf nf w) {k m a b : Nat} (hk : k < 8) (hm : m < 8) (hfree : tf k = none) (ha : tf m = some a) (hb : nf m = some b) :
    St W0 B g cur (upd tf k (some a)) (upd nf k (some b)) ((w.setCell ⟨B, k, none⟩ (ptr (some a))).setCell ⟨B + 1, k, none⟩ (ptr (some b))) := by
  obtain ⟨g1, g2⟩ := h.gB
  exact ⟨h.inv.dup hk hm hfree ha hb ((h.inv.tab.set k hk _).setFar _ _ (by simp)) ((h.inv.num.setFar _ _ (by simp)).set k hk _) (fun b c hF => (hF.set _ _ (hF.ne_tab h.inv.tab (by decide))).set _ _ (hF.ne_tab h.inv.num (by decide))),
    h.rowSet (h.rowSet h.row _ _ g1) _ _ g2, (h.below.setCell (p := ⟨B, k, none⟩) h.base _).setCell (p := ⟨B + 1, k, none⟩) (by have := h.base; show W0.heap.size ≤ B + 1; omega) _, h.base, fun j x hj hx => by
      by_cases e : j = k
      · subst e; rw [upd_at, upd_at] at hx; rcases hx with hx | hx <;> cases hx
        · exact h.high m a hm (.inl ha)
        · exact h.high m b hm (.inr hb)
      · rw [upd_ne _ _ e, upd_ne _ _ e] at hx; exact h.high j x hj hx⟩
/-- A number is closed. -/
theorem St.closed {W0 : World} {B g : Nat} {cur : Array Value} {tf nf : Nat → Option Nat} {w : World} (h : St W0 B g cur tf nf w) {k : Nat} (hk : k < 8) :
    St W0 B g cur (upd tf k none) (upd nf k none) ((w.setCell ⟨B, k, none⟩ (ptr none)).setCell ⟨B + 1, k, none⟩ (ptr none)) := by
  obtain ⟨g1, g2⟩ := h.gB
  exact ⟨h.inv.close hk ((h.inv.tab.set k hk _).setFar _ _ (by simp)) ((h.inv.num.setFar _ _ (by simp)).set k hk _) (fun b c hF => (hF.set _ _ (hF.ne_tab h.inv.tab (by decide))).set _ _ (hF.ne_tab h.inv.num (by decide))),
    h.rowSet (h.rowSet h.row _ _ g1) _ _ g2, (h.below.setCell (p := ⟨B, k, none⟩) h.base _).setCell (p := ⟨B + 1, k, none⟩) (by have := h.base; show W0.heap.size ≤ B + 1; omega) _, h.base, fun j x hj hx => by
      by_cases e : j = k
      · subst e; rw [upd_at, upd_at] at hx; rcases hx with hx | hx <;> cases hx
      · rw [upd_ne _ _ e, upd_ne _ _ e] at hx; exact h.high j x hj hx⟩
/-- Behind an append onto a list of numbers that the call owns. -/
theorem st_grown {W0 : World} {B g : Nat} {cur : Array Value} {tf nf : Nat → Option Nat} {w w' : World} (h : St W0 B g cur tf nf w) {row : Option Nat} (hg : w.grownBy w' row) (hr : ∀ k, row = some k → W0.heap.size ≤ k)
    (he : ∀ k, row = some k → ∃ c, w.heap[k]? = some (.cells c 3 (0, 0))) : St W0 B g cur tf nf w' := by
  have ne : ∀ {b : Nat} {c : Array Value} {t : TypeId} {f : Nat × Nat}, w.heap[b]? = some (.cells c t f) → t ≠ 3 → w'.heap[b]? = w.heap[b]? := by
    intro b c t f hb ht
    refine hg.block b (lt_of_block hb) (fun e => ?_)
    obtain ⟨c', hc'⟩ := he b e.symm
    exact differ hb hc' ht rfl
  have hf : ∀ b c, FileAt w b c → FileAt w' b c := fun b c hF => (ne (show w.heap[b]? = some _ from hF) (by decide)).trans hF
  refine ⟨⟨h.inv.tab.far (ne h.inv.tab (by decide)), h.inv.num.far (ne h.inv.num (by decide)), h.inv.same, fun k a b hk ha hb => ?_, h.inv.share, h.inv.apart⟩, (ne h.row (by decide)).trans h.row, h.below.grown hg h.below.size hr, h.base, h.high⟩
  obtain ⟨c, h1, h2⟩ := h.inv.both k a b hk ha hb
  exact ⟨c, hf _ _ h1, hf _ _ h2⟩
theorem move_bad' (T : Nat) (f : Nat → Option Nat) (fd off : Int) (w : World) (hT : Tab 72 T w f) (h : fd < 0 ∨ 8 ≤ fd ∨ f fd.toNat = none) :
    Calls Try.prog 18 #[.pointer (some ⟨T, 0, none⟩), .int .i64 fd, .int .i64 off] w fun e w' => e = .returned (.int .i64 609) ∧ w = w' := move_bad T f fd off w hT h
theorem move_neg' (T b k : Nat) (f : Nat → Option Nat) (fd off : Int) (w : World) (hT : Tab 72 T w f) (hk : k < 8) (hfd : fd = (k : Int)) (h : f k = some b) (ho : off < 0) :
    Calls Try.prog 18 #[.pointer (some ⟨T, 0, none⟩), .int .i64 fd, .int .i64 off] w fun e w' => e = .returned (.int .i64 622) ∧ w = w' := by subst hfd; exact move_neg T b k f off w hT hk h ho
theorem move_ok' (T b k : Nat) (f : Nat → Option Nat) (x y z fd off : Int) (w : World) (hT : Tab 72 T w f) (hk : k < 8) (hfd : fd = (k : Int)) (h : f k = some b) (hF : FileAt w b (x, y, z)) (ho : ¬ off < 0) :
    Calls Try.prog 18 #[.pointer (some ⟨T, 0, none⟩), .int .i64 fd, .int .i64 off] w fun e w' => e = .returned (.int .i64 0) ∧ w' = w.setCell ⟨b, 5, none⟩ (.int .i64 off) := by subst hfd; exact move_ok T b k f x y z off w hT hk h hF ho
theorem dup_full' (T b k : Nat) (f : Nat → Option Nat) (fd : Int) (w : World) (hT : Tab 72 T w f) (hk : k < 8) (hfd : fd = (k : Int)) (h : f k = some b) (hn : firstFree f = none) :
    Calls Try.prog 19 #[.pointer (some ⟨T, 0, none⟩), .int .i64 fd] w fun e w' => e = .returned (two (.int .i64 0) (.int .i64 624)) ∧ w = w' := by subst hfd; exact dup_full T b k f w hT hk h hn
theorem dup_ok' (T b k m : Nat) (f : Nat → Option Nat) (fd : Int) (w : World) (hT : Tab 72 T w f) (hk : k < 8) (hfd : fd = (k : Int)) (h : f k = some b) (hn : firstFree f = some m) :
    Calls Try.prog 19 #[.pointer (some ⟨T, 0, none⟩), .int .i64 fd] w fun e w' => e = .returned (two (.int .i64 m) (.int .i64 0)) ∧ w' = w.setCell ⟨T, m, none⟩ (ptr (some b)) := by subst hfd; exact dup_ok T b k m f w hT hk h hn
theorem close_ok' (T b k : Nat) (f : Nat → Option Nat) (x y z fd : Int) (w : World) (hT : Tab 72 T w f) (hk : k < 8) (hfd : fd = (k : Int)) (h : f k = some b) (hF : FileAt w b (x, y, z)) (hA : ∀ j, j < 8 → Cells w (f j)) :
    Calls Try.prog 20 #[.pointer (some ⟨T, 0, none⟩), .int .i64 fd] w fun e w' => e = .returned (three (fileV x y z) (.bool (!(idx (upd f k none) (some b)).isSome)) (.int .i64 0)) ∧
      w' = (w.setCell ⟨T, k, none⟩ (.pointer none)).alloc (.cells (fileC x y z) 47) := by subst hfd; exact close_ok T b k f x y z w hT hk h hF hA
end Go.Proofs.Ythjdpcgkkmfodaa.Desc
