/- What is seen of a device is what is kept, and over it what waits: plain lists. -/
import Derived.Test.YthjdpcgkkmfodaaPendH
namespace Go.Proofs.Ythjdpcgkkmfodaa.Pend
open Go.RowKit Go.Proofs.Ythjdpcgkkmfodaa.Base
set_option linter.unusedVariables false
set_option linter.unusedSimpArgs false

/-- What is seen: what is kept, and over it what waits. -/
def seen (kept : List Int) (l : List P3) : List Int := l.foldl (fun s p => s.set p.1 p.2.1) kept
/-- Of a line, those that are flushed wait ahead of those that are not. -/
def Ordered (l : List P3) : Prop := l.Pairwise fun p q => p.1 / 8 = q.1 / 8 → q.2.2 = true → p.2.2 = true

theorem seen_nil (kept : List Int) : seen kept [] = kept := rfl
theorem seen_cons (kept : List Int) (p : P3) (l : List P3) : seen kept (p :: l) = seen (kept.set p.1 p.2.1) l := rfl
theorem seen_append (kept : List Int) (l k : List P3) : seen kept (l ++ k) = seen (seen kept l) k := by simp [seen, List.foldl_append]
theorem seen_snoc (kept : List Int) (l : List P3) (p : P3) : seen kept (l ++ [p]) = (seen kept l).set p.1 p.2.1 := by rw [seen_append]; rfl
theorem seen_len (kept : List Int) (l : List P3) : (seen kept l).length = kept.length := by
  induction l generalizing kept with
  | nil => rfl
  | cons p l ih => rw [seen_cons, ih, List.length_set]
theorem seen_take {kept : List Int} {l : List P3} {k : Nat} {p : P3} (h : l[k]? = some p) : seen kept (l.take (k + 1)) = (seen kept (l.take k)).set p.1 p.2.1 := by
  rw [List.take_add_one, h]; exact seen_snoc _ _ _
theorem seen_flag (line : Nat) (kept : List Int) (l : List P3) : seen kept (l.map (flag line)) = seen kept l := by
  induction l generalizing kept with
  | nil => rfl
  | cons p l ih => rw [List.map_cons, seen_cons, seen_cons, ih]; rfl
theorem seen_set (l : List P3) (kept : List Int) (a : Nat) (x : Int) (h : ∀ q ∈ l, q.1 ≠ a) : (seen kept l).set a x = seen (kept.set a x) l := by
  induction l generalizing kept with
  | nil => rfl
  | cons p l ih =>
    rw [seen_cons, seen_cons, ih _ (fun q hq => h q (List.mem_cons_of_mem _ hq)), List.set_comm _ _ (h p (List.mem_cons_self ..))]

theorem keepTo_flagged (l : List P3) (kept : List Int) (k : Nat) : keepTo isFlagged l kept k = seen kept ((l.take k).filter (fun p => p.2.2)) := by
  induction k with
  | zero => simp [keepTo, seen]
  | succ k ih =>
    rw [List.take_add_one]
    cases h : l[k]? with
    | none => simp [keepTo, h, ih]
    | some p =>
      cases hf : p.2.2 with
      | true => rw [keepTo_hit (is := isFlagged) h hf, ih, Option.toList_some, List.filter_append, ← seen_snoc]; simp [List.filter_cons, hf]
      | false => rw [keepTo_miss (is := isFlagged) h hf, ih, Option.toList_some, List.filter_append]; simp [List.filter_cons, hf]
theorem leftTo_flagged (l : List P3) (k : Nat) : leftTo isFlagged l k = (l.take k).filter (fun p => !p.2.2) := by
  induction k with
  | zero => simp [leftTo]
  | succ k ih =>
    rw [List.take_add_one]
    cases h : l[k]? with
    | none => simp [leftTo, h, ih]
    | some p =>
      cases hf : p.2.2 with
      | true => rw [leftTo_hit (is := isFlagged) h hf, ih, Option.toList_some, List.filter_append]; simp [List.filter_cons, hf]
      | false => rw [leftTo_miss (is := isFlagged) h hf, ih, Option.toList_some, List.filter_append]; simp [List.filter_cons, hf]

theorem ordered_nil : Ordered [] := List.Pairwise.nil
theorem ordered_snoc {l : List P3} (h : Ordered l) (a : Nat) (x : Int) : Ordered (l ++ [(a, x, false)]) := by
  unfold Ordered at *
  rw [List.pairwise_append]
  refine ⟨h, List.pairwise_singleton _ _, fun p hp q hq => ?_⟩
  rw [List.mem_singleton] at hq
  subst hq
  intro _ hf; cases hf
theorem ordered_flag {l : List P3} (h : Ordered l) (line : Nat) : Ordered (l.map (flag line)) := by
  unfold Ordered at *
  rw [List.pairwise_map]
  refine h.imp fun {p q} hpq => ?_
  simp only [flag]
  intro hl hq
  by_cases hp : p.1 / 8 = line
  · simp [hp]
  · have hqn : ¬ q.1 / 8 = line := by rw [← hl]; exact hp
    simp [hp, hqn] at hq ⊢
    exact hpq hl hq
theorem ordered_left {l : List P3} : Ordered (l.filter fun p => !p.2.2) := by
  unfold Ordered
  rw [List.pairwise_iff_forall_sublist]
  intro p q hs hl hq
  have : q ∈ l.filter fun p => !p.2.2 := hs.subset (by simp)
  rw [List.mem_filter] at this
  rw [hq] at this
  simp at this
theorem seen_fence (l : List P3) (kept : List Int) (h : Ordered l) : seen (seen kept (l.filter fun p => p.2.2)) (l.filter fun p => !p.2.2) = seen kept l := by
  induction l generalizing kept with
  | nil => rfl
  | cons p l ih =>
    have h2 := List.pairwise_cons.1 h
    cases hf : p.2.2 with
    | true =>
      simp only [List.filter_cons, hf, if_true, Bool.not_true, Bool.false_eq_true, if_false]
      rw [seen_cons, seen_cons]
      exact ih _ h2.2
    | false =>
      simp only [List.filter_cons, hf, Bool.false_eq_true, if_false, Bool.not_false, if_true]
      rw [seen_cons, seen_cons, seen_set _ _ _ _ ?_]
      · exact ih _ h2.2
      · intro q hq hqa
        rw [List.mem_filter] at hq
        have := h2.1 q hq.1 (by rw [hqa]) hq.2
        rw [hf] at this; cases this

/-- What one keeps by hand of a device of n words, behind fewer than k stores. -/
structure Hand (n k : Nat) (kept now : List Int) (wait : List P3) : Prop where
  now_eq : now = seen kept wait
  ord : Ordered wait
  at_lt : ∀ p ∈ wait, p.1 < n
  len : wait.length ≤ k
  kl : kept.length = n
section
variable {n k : Nat} {kept now : List Int} {wait : List P3}
theorem Hand.zero (n : Nat) : Hand n 0 (List.replicate n 0) (List.replicate n 0) [] := ⟨rfl, ordered_nil, (fun p hp => by cases hp), Nat.le_refl _, by simp⟩
theorem Hand.more (h : Hand n k kept now wait) : Hand n (k + 1) kept now wait := ⟨h.now_eq, h.ord, h.at_lt, Nat.le_succ_of_le h.len, h.kl⟩
theorem Hand.store (h : Hand n k kept now wait) (a : Nat) (x : Int) (ha : a < n) : Hand n (k + 1) kept (now.set a x) (wait ++ [(a, x, false)]) := by
  refine ⟨by rw [seen_snoc, h.now_eq], ordered_snoc h.ord a x, ?_, by simp; exact h.len, h.kl⟩
  intro p hp
  rcases List.mem_append.1 hp with hp | hp
  · exact h.at_lt p hp
  · rw [List.mem_singleton] at hp; subst hp; exact ha
theorem Hand.flush (h : Hand n k kept now wait) (line : Nat) : Hand n (k + 1) kept now (wait.map (flag line)) := by
  refine ⟨by rw [seen_flag, h.now_eq], ordered_flag h.ord line, ?_, by simp; exact Nat.le_succ_of_le h.len, h.kl⟩
  intro p hp
  obtain ⟨q, hq, rfl⟩ := List.mem_map.1 hp
  exact h.at_lt q hq
theorem Hand.fence (h : Hand n k kept now wait) : Hand n (k + 1) (keepTo isFlagged wait kept wait.length) now (leftTo isFlagged wait wait.length) := by
  rw [keepTo_flagged, leftTo_flagged, List.take_length]
  refine ⟨by rw [seen_fence _ _ h.ord, h.now_eq], ordered_left, ?_, ?_, by rw [seen_len, h.kl]⟩
  · intro p hp
    exact h.at_lt p (List.mem_filter.1 hp).1
  · have := List.length_filter_le (fun p : P3 => !p.2.2) wait
    have := h.len
    omega
theorem Hand.crash (h : Hand n k kept now wait) (is : Nat → P3 → Bool) : Hand n (k + 1) (keepTo is wait kept wait.length) (keepTo is wait kept wait.length) [] :=
  ⟨rfl, ordered_nil, (fun p hp => by cases hp), by simp, by rw [keepTo_len, h.kl]⟩
end
end Go.Proofs.Ythjdpcgkkmfodaa.Pend
