/- slices.Clone of []bool, []uint64 and []Pend. -/
import Derived.Test.YthjdpcgkkmfodaaRows
import Derived.Test.YthjdpcgkkmfodaaPendA
import Derived.WalkKit
import Derived.WalkSpells
import Derived.WalkLawsBesides
import Derived.Deep.RegionHeld3
import Derived.BigRegion
import Derived.Lib.Hide
namespace Go.Proofs.Ythjdpcgkkmfodaa.Pend
open Go.RowKit Go.Proofs.Ythjdpcgkkmfodaa.Base
set_option linter.unusedVariables false
set_option linter.unusedSimpArgs false

def ClonePost (e0 size m : Nat) (xs : List Value) (w : World) (e : Ending) (w' : World) : Prop := ∃ v', e = .returned v' ∧ w'.ownsRow w.heap.size e0 size v' m xs ∧ Below w.heap.size w w'

theorem info4 : (Try.prog.info? 4).map (fun i => (i.zero, i.size, i.bytes)) = some (some (.bool false), 1, 1) := by kernel_rfl
set_option maxRecDepth 100000 in
theorem clone43 (ao : Option Addr) (m c : Nat) (xs : List Value) (w : World) (hn : ao = none → m = 0 ∧ c = 0) (hl : xs.length = m * 1)
    (hnews : ∀ ad, ao = some ad → ∀ j u, xs[j]? = some u → w.cell? (ad.add j) = some u) (hb : ∀ ad, ao = some ad → 0 < m → ad.block < w.heap.size) (h1 : ∀ u ∈ xs, u.oneCell' = true) (hm : m ≤ 1000000) :
    Calls Try.prog 43 #[.slice ao m c] w (ClonePost 4 1 m xs w) := by
  obtain ⟨i0, hi, hz0, hz1, hz2⟩ := info_parts info4
  cases ao with
  | none =>
    obtain ⟨rfl, rfl⟩ := hn rfl
    have hx : xs = [] := List.eq_nil_of_length_eq_zero (by simpa using hl)
    subst hx
    have he : ∀ w : World, (binOp .eql 61 (.slice none 0 0) (.slice none 0 0)).run Try.prog w = .ok (.bool true) w := fun _ => rfl
    go_enter Try.func43, Try.ntmps43
    go_wp2
    go_ret
    exact ⟨_, rfl, World.ownsRow_nil _ _ _ _, Below.refl _ _⟩
  | some ad =>
    have hbl := hb ad rfl
    have hnw := hnews ad rfl
    have H1 := Lib.hid h1; have HN := Lib.hid hnw
    clear hnews hb hn h1 hnw
    have he : ∀ w : World, (binOp .eql 61 (.slice (some ad) m c) (.slice none 0 0)).run Try.prog w = .ok (.bool false) w := fun _ => rfl
    go_enter Try.func43, Try.ntmps43
    go_wp2_with (at_builtin; refine wpList_append_own _ rfl _ _ 61 rfl w.heap.size 4 i0 (.bool false) 1 1 Try.underlying61 hi hz0 hz1 hz2 rfl (by decide) _ 0 [] rfl (own_lit #[] _ 0 [] rfl rfl (Nat.le_refl _) (Nat.zero_le _) rfl) ad m c xs rfl hl ?c1 H1.out ?c3 ?c4 ?c5 ?_)
    case c1 =>
      intro j u hu
      have hbl := hbl (by
        have h := (List.getElem?_eq_some_iff.1 hu).1
        rcases Nat.eq_zero_or_pos m with h0 | h0
        · subst h0; omega
        · exact h0)
      rw [World.cell?_of_block (w := w) (Below.heap_alloc _ _ _ (by simpa [Addr.add] using (show (ad.add j).block < w.heap.size by unfold Addr.add; split <;> simpa using hbl)))]
      exact HN.out j u hu
    case c3 => unfold maxLen; omega
    case c4 => omega
    case c5 => simp
    intro v' w1 hown' hgrow _
    (try simp only [Nat.zero_add, List.nil_append] at hown')
    have hB1 : Below w.heap.size w w1 := ((Below.refl w.heap.size w).alloc (Nat.le_refl _) _).grown hgrow (by simp) (fun k hk => by simp [Value.ownBlock] at hk; omega)
    have HO := Lib.hid hown'; have HB := Lib.hid hB1; clear hown' hB1 hgrow
    go_wp2
    go_ret
    exact ⟨_, rfl, HO.out, HB.out⟩

theorem info81 : (Try.prog.info? 81).map (fun i => (i.zero, i.size, i.bytes)) = some (some (.int .u64 0), 1, 8) := by kernel_rfl
set_option maxRecDepth 100000 in
theorem clone44 (ao : Option Addr) (m c : Nat) (xs : List Value) (w : World) (hn : ao = none → m = 0 ∧ c = 0) (hl : xs.length = m * 1)
    (hnews : ∀ ad, ao = some ad → ∀ j u, xs[j]? = some u → w.cell? (ad.add j) = some u) (hb : ∀ ad, ao = some ad → 0 < m → ad.block < w.heap.size) (h1 : ∀ u ∈ xs, u.oneCell' = true) (hm : m ≤ 1000000) :
    Calls Try.prog 44 #[.slice ao m c] w (ClonePost 81 1 m xs w) := by
  obtain ⟨i0, hi, hz0, hz1, hz2⟩ := info_parts info81
  cases ao with
  | none =>
    obtain ⟨rfl, rfl⟩ := hn rfl
    have hx : xs = [] := List.eq_nil_of_length_eq_zero (by simpa using hl)
    subst hx
    have he : ∀ w : World, (binOp .eql 79 (.slice none 0 0) (.slice none 0 0)).run Try.prog w = .ok (.bool true) w := fun _ => rfl
    go_enter Try.func44, Try.ntmps44
    go_wp2
    go_ret
    exact ⟨_, rfl, World.ownsRow_nil _ _ _ _, Below.refl _ _⟩
  | some ad =>
    have hbl := hb ad rfl
    have hnw := hnews ad rfl
    have H1 := Lib.hid h1; have HN := Lib.hid hnw
    clear hnews hb hn h1 hnw
    have he : ∀ w : World, (binOp .eql 79 (.slice (some ad) m c) (.slice none 0 0)).run Try.prog w = .ok (.bool false) w := fun _ => rfl
    go_enter Try.func44, Try.ntmps44
    go_wp2_with (at_builtin; refine wpList_append_own _ rfl _ _ 79 rfl w.heap.size 81 i0 (.int .u64 0) 1 8 Try.underlying79 hi hz0 hz1 hz2 rfl (by decide) _ 0 [] rfl (own_lit #[] _ 0 [] rfl rfl (Nat.le_refl _) (Nat.zero_le _) rfl) ad m c xs rfl hl ?c1 H1.out ?c3 ?c4 ?c5 ?_)
    case c1 =>
      intro j u hu
      have hbl := hbl (by
        have h := (List.getElem?_eq_some_iff.1 hu).1
        rcases Nat.eq_zero_or_pos m with h0 | h0
        · subst h0; omega
        · exact h0)
      rw [World.cell?_of_block (w := w) (Below.heap_alloc _ _ _ (by simpa [Addr.add] using (show (ad.add j).block < w.heap.size by unfold Addr.add; split <;> simpa using hbl)))]
      exact HN.out j u hu
    case c3 => unfold maxLen; omega
    case c4 => omega
    case c5 => simp
    intro v' w1 hown' hgrow _
    (try simp only [Nat.zero_add, List.nil_append] at hown')
    have hB1 : Below w.heap.size w w1 := ((Below.refl w.heap.size w).alloc (Nat.le_refl _) _).grown hgrow (by simp) (fun k hk => by simp [Value.ownBlock] at hk; omega)
    have HO := Lib.hid hown'; have HB := Lib.hid hB1; clear hown' hB1 hgrow
    go_wp2
    go_ret
    exact ⟨_, rfl, HO.out, HB.out⟩

theorem info85 : (Try.prog.info? 85).map (fun i => (i.zero, i.size, i.bytes)) = some (some (.agg #[.int .i64 0, .int .u64 0, .bool false]), 3, 24) := by kernel_rfl
set_option maxRecDepth 100000 in
theorem clone38 (ao : Option Addr) (m c : Nat) (xs : List Value) (w : World) (hn : ao = none → m = 0 ∧ c = 0) (hl : xs.length = m * 3)
    (hnews : ∀ ad, ao = some ad → ∀ j u, xs[j]? = some u → w.cell? (ad.add j) = some u) (hb : ∀ ad, ao = some ad → 0 < m → ad.block < w.heap.size) (h1 : ∀ u ∈ xs, u.oneCell' = true) (hm : m ≤ 1000000) :
    Calls Try.prog 38 #[.slice ao m c] w (ClonePost 85 3 m xs w) := by
  obtain ⟨i0, hi, hz0, hz1, hz2⟩ := info_parts info85
  cases ao with
  | none =>
    obtain ⟨rfl, rfl⟩ := hn rfl
    have hx : xs = [] := List.eq_nil_of_length_eq_zero (by simpa using hl)
    subst hx
    have he : ∀ w : World, (binOp .eql 80 (.slice none 0 0) (.slice none 0 0)).run Try.prog w = .ok (.bool true) w := fun _ => rfl
    go_enter Try.func38, Try.ntmps38
    go_wp2
    go_ret
    exact ⟨_, rfl, World.ownsRow_nil _ _ _ _, Below.refl _ _⟩
  | some ad =>
    have hbl := hb ad rfl
    have hnw := hnews ad rfl
    have H1 := Lib.hid h1; have HN := Lib.hid hnw
    clear hnews hb hn h1 hnw
    have he : ∀ w : World, (binOp .eql 80 (.slice (some ad) m c) (.slice none 0 0)).run Try.prog w = .ok (.bool false) w := fun _ => rfl
    go_enter Try.func38, Try.ntmps38
    go_wp2_with (at_builtin; refine wpList_append_own _ rfl _ _ 80 rfl w.heap.size 85 i0 (.agg #[.int .i64 0, .int .u64 0, .bool false]) 3 24 Try.underlying80 hi hz0 hz1 hz2 rfl (by decide) _ 0 [] rfl (own_lit #[] _ 0 [] rfl rfl (Nat.le_refl _) (Nat.zero_le _) rfl) ad m c xs rfl hl ?c1 H1.out ?c3 ?c4 ?c5 ?_)
    case c1 =>
      intro j u hu
      have hbl := hbl (by
        have h := (List.getElem?_eq_some_iff.1 hu).1
        rcases Nat.eq_zero_or_pos m with h0 | h0
        · subst h0; omega
        · exact h0)
      rw [World.cell?_of_block (w := w) (Below.heap_alloc _ _ _ (by simpa [Addr.add] using (show (ad.add j).block < w.heap.size by unfold Addr.add; split <;> simpa using hbl)))]
      exact HN.out j u hu
    case c3 => unfold maxLen; omega
    case c4 => omega
    case c5 => simp
    intro v' w1 hown' hgrow _
    (try simp only [Nat.zero_add, List.nil_append] at hown')
    have hB1 : Below w.heap.size w w1 := ((Below.refl w.heap.size w).alloc (Nat.le_refl _) _).grown hgrow (by simp) (fun k hk => by simp [Value.ownBlock] at hk; omega)
    have HO := Lib.hid hown'; have HB := Lib.hid hB1; clear hown' hB1 hgrow
    go_wp2
    go_ret
    exact ⟨_, rfl, HO.out, HB.out⟩
end Go.Proofs.Ythjdpcgkkmfodaa.Pend
