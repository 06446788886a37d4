/- TopLaid, second part: the walk where the layout is none. -/
import Derived.Test.YthjdpcgkkmfodaaLaidA
namespace Go.Proofs.Ythjdpcgkkmfodaa.Laid
open Go.RowKit Go.Proofs.Ythjdpcgkkmfodaa.Base Go.Proofs.Ythjdpcgkkmfodaa.Geom

theorem bad_parts {p i b : Int} (h : ¬ Ok p i b) : p < 1 ∨ (¬ p < 1 ∧ 8 < p) ∨ (¬ p < 1 ∧ ¬ 8 < p ∧ i < 2) ∨ (¬ p < 1 ∧ ¬ 8 < p ∧ ¬ i < 2 ∧ 64 < i) ∨
    (¬ p < 1 ∧ ¬ 8 < p ∧ ¬ i < 2 ∧ ¬ 64 < i ∧ b < 4) ∨ (¬ p < 1 ∧ ¬ 8 < p ∧ ¬ i < 2 ∧ ¬ 64 < i ∧ ¬ b < 4 ∧ 255 < b) := by
  unfold Ok at h
  omega

set_option maxRecDepth 100000 in
set_option maxHeartbeats 4000000 in
theorem laid_bad (a b c : Int) (w : World) (ha : -32768 ≤ a ∧ a ≤ 32767) (hb : -32768 ≤ b ∧ b ≤ 32767) (hc : -32768 ≤ c ∧ c ≤ 32767) (h : ¬ Ok (a.tmod 10) (b.tmod 67) (c.tmod 258)) :
    Calls Try.prog 3 #[.int .i16 a, .int .i16 b, .int .i16 c] w (New w (.bool true)) := by
  go_enter Try.func3, Try.ntmps3
  go_wp2_with fail
  clear ha hb hc
  generalize a.tmod 10 = p at *
  generalize b.tmod 67 = i at *
  generalize c.tmod 258 = k at *
  rcases bad_parts h with h1 | ⟨h1, h2⟩ | ⟨h1, h2, h3⟩ | ⟨h1, h2, h3, h4⟩ | ⟨h1, h2, h3, h4, h5⟩ | ⟨h1, h2, h3, h4, h5, h6⟩
  all_goals go_wp2_with (first | (go_at_call 8; refine (lines_bad _ _ _ _ h).mono ?_; rintro e w1 ⟨rfl, hb1⟩; obtain ⟨hc1, hf1, hz1⟩ := bcell hb1; (try simp only [World.size_drew, World.cell?_drew, World.frozen?_drew, World.size_alloc, World.size_setCell, Nat.add_one_le_iff] at hc1 hf1 hz1); have hs1_0 : w.heap.size < w1.heap.size := (by omega)) | (go_at_call 9; refine (inode_bad _ _ _ _ _ h (by omega) (by omega)).mono ?_; rintro e w2 ⟨rfl, hb2⟩; obtain ⟨hc2, hf2, hz2⟩ := bcell hb2; (try simp only [World.size_drew, World.cell?_drew, World.frozen?_drew, World.size_alloc, World.size_setCell, Nat.add_one_le_iff] at hc2 hf2 hz2); have hs2_0 : w.heap.size < w2.heap.size := (by omega)) | (go_at_call 10; refine (what_bad _ _ _ _ _ h).mono ?_; rintro e w3 ⟨rfl, hb3⟩; obtain ⟨hc3, hf3, hz3⟩ := bcell hb3; (try simp only [World.size_drew, World.cell?_drew, World.frozen?_drew, World.size_alloc, World.size_setCell, Nat.add_one_le_iff] at hc3 hf3 hz3); have hs3_0 : w.heap.size < w3.heap.size := (by omega)) | (go_at_call 11; refine (check_bad _ _ _ _ h).mono ?_; rintro e w4 ⟨rfl, hb4⟩; obtain ⟨hc4, hf4, hz4⟩ := bcell hb4; (try simp only [World.size_drew, World.cell?_drew, World.frozen?_drew, World.size_alloc, World.size_setCell, Nat.add_one_le_iff] at hc4 hf4 hz4)))

  all_goals (go_ret; exact ⟨rfl, newTa (newT (newT (new2 hb1) hb2) hb3) hb4⟩)
end Go.Proofs.Ythjdpcgkkmfodaa.Laid
