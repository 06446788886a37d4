/- A device in memory; and the contracts of media's short functions. -/
import Derived.Test.YthjdpcgkkmfodaaPendB
namespace Go.Proofs.Ythjdpcgkkmfodaa.Pend
open Go.RowKit Go.Proofs.Ythjdpcgkkmfodaa.Base
set_option linter.unusedVariables false
set_option linter.unusedSimpArgs false

/-- What waits: where, the word, flushed. -/
abbrev P3 := Nat × Int × Bool
def pend1 (p : P3) : List Value := [.int .i64 (p.1 : Int), .int .u64 p.2.1, .bool p.2.2]
def pends : List P3 → List Value
  | [] => []
  | p :: l => pend1 p ++ pends l
def words (l : List Int) : List Value := l.map fun x => .int .u64 x
theorem words_len (l : List Int) : (words l).length = l.length := by simp [words]
theorem words_get {l : List Int} {j : Nat} {x : Int} (h : l[j]? = some x) : (words l)[j]? = some (.int .u64 x) := by simp [words, h]
theorem words_set (l : List Int) (j : Nat) (x : Int) : (words l).set j (.int .u64 x) = words (l.set j x) := by simp [words, List.map_set]
theorem words_one (l : List Int) : ∀ u ∈ words l, u.oneCell' = true := by intro u hu; simp [words] at hu; obtain ⟨x, _, rfl⟩ := hu; rfl
theorem pends_append (l k : List P3) : pends (l ++ k) = pends l ++ pends k := by induction l with | nil => rfl | cons p l ih => simp [pends, ih]
theorem pends_snoc (l : List P3) (p : P3) : pends (l ++ [p]) = pends l ++ [.int .i64 (p.1 : Int), .int .u64 p.2.1, .bool p.2.2] := by rw [pends_append]; rfl
theorem pends_len (l : List P3) : (pends l).length = l.length * 3 := by induction l with | nil => rfl | cons p l ih => simp [pends, pend1, ih]; omega
theorem pends_one (l : List P3) : ∀ u ∈ pends l, u.oneCell' = true := by
  induction l with
  | nil => intro u hu; cases hu
  | cons p l ih => intro u hu; simp [pends, pend1] at hu; rcases hu with rfl | rfl | rfl | h; rfl; rfl; rfl; exact ih u h
theorem pends_get {l : List P3} {i : Nat} {p : P3} (h : l[i]? = some p) :
    (pends l)[i * 3]? = some (.int .i64 (p.1 : Int)) ∧ (pends l)[i * 3 + 1]? = some (.int .u64 p.2.1) ∧ (pends l)[i * 3 + 2]? = some (.bool p.2.2) := by
  induction l generalizing i with
  | nil => cases h
  | cons q l ih =>
    cases i with
    | zero => simp at h; subst h; simp [pends, pend1]
    | succ i =>
      have h' : l[i]? = some p := by simpa using h
      have := ih h'
      have e : (i + 1) * 3 = i * 3 + 3 := by omega
      rw [e]
      simpa [pends, pend1] using this
theorem pends_flag {l : List P3} {i : Nat} {p : P3} (h : l[i]? = some p) (b : Bool) : (pends l).set (i * 3 + 2) (.bool b) = pends (l.set i (p.1, p.2.1, b)) := by
  induction l generalizing i with
  | nil => cases h
  | cons q l ih =>
    cases i with
    | zero => simp at h; subst h; simp [pends, pend1]
    | succ i =>
      have h' : l[i]? = some p := by simpa using h
      have := ih h'
      have e : (i + 1) * 3 + 2 = i * 3 + 2 + 3 := by omega
      rw [e]
      simpa [pends, pend1] using this
theorem pends_take (l : List P3) (k : Nat) : (pends l).take (k * 3) = pends (l.take k) := by
  induction l generalizing k with
  | nil => simp [pends]
  | cons q l ih =>
    cases k with
    | zero => simp [pends]
    | succ k => have e : (k + 1) * 3 = k * 3 + 3 := by omega
                rw [e]; simp [pends, pend1, ih]

/-- The names of a device's blocks: the struct, what is kept, what is seen; how many words; the two rows' rooms. -/
structure Places where
  D : Nat
  K : Nat
  N : Nat
  n : Nat
  ck : Nat
  cn : Nat

/-- A device behind B: what is kept, what is seen, what waits. -/
structure Dev (w : World) (B : Nat) (L : Places) (wv : Value) (kept now : List Int) (wait : List P3) : Prop where
  block : w.heap[L.D]? = some (.cells #[.slice (some ⟨L.K, 0, none⟩) L.n L.ck, .slice (some ⟨L.N, 0, none⟩) L.n L.cn, wv] 121 (0, 0))
  kept : wide w B 81 1 (.slice (some ⟨L.K, 0, none⟩) L.n L.ck) L.n (words kept)
  now : wide w B 81 1 (.slice (some ⟨L.N, 0, none⟩) L.n L.cn) L.n (words now)
  wait : wide w B 85 3 wv wait.length (pends wait)
  bd : B ≤ L.D
  dk : ¬ L.D = L.K
  dn : ¬ L.D = L.N
  kn : ¬ L.K = L.N
  wd : ∀ k, wv.ownBlock = some k → ¬ k = L.D ∧ ¬ k = L.K ∧ ¬ k = L.N

/-- The blocks of a device. -/
def foot (L : Places) (wv : Value) : Nat → Prop := fun k => k = L.D ∨ k = L.K ∨ k = L.N ∨ wv.ownBlock = some k

section
variable {w w' : World} {B : Nat} {L : Places} {wv : Value} {kept now : List Int} {wait : List P3}
theorem Dev.c0 (h : Dev w B L wv kept now wait) : w.cell? ⟨L.D, 0, none⟩ = some (.slice (some ⟨L.K, 0, none⟩) L.n L.ck) := by rw [cell_of_row w L.D 0 _ _ _ h.block]; rfl
theorem Dev.c1 (h : Dev w B L wv kept now wait) : w.cell? ⟨L.D, 1, none⟩ = some (.slice (some ⟨L.N, 0, none⟩) L.n L.cn) := by rw [cell_of_row w L.D 1 _ _ _ h.block]; rfl
theorem Dev.c2 (h : Dev w B L wv kept now wait) : w.cell? ⟨L.D, 2, none⟩ = some wv := by rw [cell_of_row w L.D 2 _ _ _ h.block]; rfl
theorem Dev.f2 (h : Dev w B L wv kept now wait) : w.frozen? ⟨L.D, 2, none⟩ = false := frozen_of_row w _ _ _ _ h.block
theorem Dev.keptLen (h : Dev w B L wv kept now wait) : kept.length = L.n := by have := h.kept.1; rw [words_len] at this; omega
theorem Dev.nowLen (h : Dev w B L wv kept now wait) : now.length = L.n := by have := h.now.1; rw [words_len] at this; omega
theorem Dev.only {S : Nat → Prop} (h : Dev w B L wv kept now wait) (ho : Only S w w') (hS : ∀ k, foot L wv k → ¬ S k) : Dev w' B L wv kept now wait := by
  have hd := lt_of_block h.block
  refine ⟨?_, ?_, ?_, ?_, h.bd, h.dk, h.dn, h.kn, h.wd⟩
  · rw [ho.block L.D hd (hS _ (.inl rfl))]; exact h.block
  · exact h.kept.only ho (fun k hk => by simp [Value.ownBlock] at hk; subst hk; exact hS _ (.inr (.inl rfl)))
  · exact h.now.only ho (fun k hk => by simp [Value.ownBlock] at hk; subst hk; exact hS _ (.inr (.inr (.inl rfl))))
  · exact h.wait.only ho (fun k hk => hS _ (.inr (.inr (.inr hk))))
theorem Dev.lt (h : Dev w B L wv kept now wait) : ∀ k, foot L wv k → B ≤ k ∧ k < w.heap.size := by
  rintro k (rfl | rfl | rfl | hk)
  · exact ⟨h.bd, lt_of_block h.block⟩
  · exact h.kept.lt _ rfl
  · exact h.now.lt _ rfl
  · exact h.wait.lt k hk
theorem Dev.kb (h : Dev w B L wv kept now wait) : L.D < w.heap.size ∧ L.K < w.heap.size ∧ L.N < w.heap.size := ⟨(h.lt _ (.inl rfl)).2, (h.lt _ (.inr (.inl rfl))).2, (h.lt _ (.inr (.inr (.inl rfl)))).2⟩
end

/-- What comes of a call to a device: it answers r, and is so behind it; nothing else of what was there has turned. -/
def DevPost (B : Nat) (L : Places) (wv : Value) (kept now : List Int) (wait : List P3) (r : Value) (w : World) (e : Ending) (w' : World) : Prop :=
  e = .returned r ∧ ∃ wv', Dev w' B L wv' kept now wait ∧ Only (foot L wv) w w' ∧ ∀ k, wv'.ownBlock = some k → wv.ownBlock = some k ∨ w.heap.size ≤ k

theorem clone_words {w : World} {B n c : Nat} {g : Option Addr} {l : List Int} (h : wide w B 81 1 (.slice g n c) n (words l)) (hn : n ≤ 1000000) : Calls Try.prog 44 #[.slice g n c] w (ClonePost 81 1 n (words l) w) := by
  have hadd : ∀ b j : Nat, (⟨b, 0, none⟩ : Addr).add j = ⟨b, j, none⟩ := by intro b j; unfold Addr.add; split <;> simp_all
  refine clone44 g n c (words l) w ?_ (by simpa using h.1) ?_ ?_ (words_one l) hn
  · rintro rfl
    rcases h.2 with ⟨hv, _⟩ | ⟨g, cap, cur, hv, _⟩ <;> simp at hv; simpa using hv
  · rintro ad rfl j u hu
    rcases h.2 with ⟨hv, _⟩ | ⟨g, cap, cur, hv, _⟩
    · simp at hv
    · simp at hv; obtain ⟨rfl, rfl⟩ := hv; rw [hadd]; exact h.cell hu
  · rintro ad rfl
    rcases h.2 with ⟨hv, _⟩ | ⟨g, cap, cur, hv, _, hg, _⟩
    · simp at hv
    · simp at hv; obtain ⟨rfl, rfl⟩ := hv; exact fun _ => lt_of_block hg
theorem clone_pends {w : World} {B n c : Nat} {g : Option Addr} {l : List P3} (h : wide w B 85 3 (.slice g n c) n (pends l)) (hn : n ≤ 1000000) : Calls Try.prog 38 #[.slice g n c] w (ClonePost 85 3 n (pends l) w) := by
  have hadd : ∀ b j : Nat, (⟨b, 0, none⟩ : Addr).add j = ⟨b, j, none⟩ := by intro b j; unfold Addr.add; split <;> simp_all
  refine clone38 g n c (pends l) w ?_ (by simpa using h.1) ?_ ?_ (pends_one l) hn
  · rintro rfl
    rcases h.2 with ⟨hv, _⟩ | ⟨g, cap, cur, hv, _⟩ <;> simp at hv; simpa using hv
  · rintro ad rfl j u hu
    rcases h.2 with ⟨hv, _⟩ | ⟨g, cap, cur, hv, _⟩
    · simp at hv
    · simp at hv; obtain ⟨rfl, rfl⟩ := hv; rw [hadd]; exact h.cell hu
  · rintro ad rfl
    rcases h.2 with ⟨hv, _⟩ | ⟨g, cap, cur, hv, _, hg, _⟩
    · simp at hv
    · simp at hv; obtain ⟨rfl, rfl⟩ := hv; exact fun _ => lt_of_block hg

section
variable {w : World} {B : Nat} {L : Places} {wv : Value} {kept now : List Int} {wait : List P3}
set_option maxRecDepth 100000 in
theorem lines_any (h : Dev w B L wv kept now wait) (hn : L.n ≤ 1000000) : Calls Try.prog 37 #[.pointer (some ⟨L.D, 0, none⟩)] w fun e w' => e = .returned (.int .i64 ((L.n / 8 : Nat) : Int)) ∧ w' = w := by
  have c0 := h.c0
  have H := Lib.hid h; clear h
  have hq : ((L.n : Int)).tdiv 8 = ((L.n / 8 : Nat) : Int) := by rw [Int.tdiv_eq_ediv_of_nonneg (by omega)]; omega
  go_enter Try.func37, Try.ntmps37
  go_wp2
  go_ret
  exact ⟨by simp [hq], rfl⟩

set_option maxRecDepth 100000 in
theorem may_ok (D : Nat) (at_ bound : Nat) (w : World) (hb : bound ≤ 1000000) (h : at_ < bound) : Calls Try.prog 70 #[.pointer (some ⟨D, 0, none⟩), .int .i64 at_, .int .i64 bound] w fun e w' => e = .returned (.int .i64 0) ∧ w' = w := by
  go_enter Try.func70, Try.ntmps70
  go_wp2
  go_ret
  exact ⟨rfl, rfl⟩
set_option maxRecDepth 100000 in
theorem may_arg (D : Nat) (at_ bound : Nat) (w : World) (hb : at_ ≤ 1000000) (h : bound ≤ at_) : Calls Try.prog 70 #[.pointer (some ⟨D, 0, none⟩), .int .i64 at_, .int .i64 bound] w fun e w' => e = .returned (.int .i64 2) ∧ w' = w := by
  go_enter Try.func70, Try.ntmps70
  go_wp2
  go_ret
  exact ⟨rfl, rfl⟩
end
end Go.Proofs.Ythjdpcgkkmfodaa.Pend
