/- The contracts of package geom, second part: where inodes, slots and blocks begin, and what each word belongs to. -/
import Derived.Test.YthjdpcgkkmfodaaGeom
namespace Go.Proofs.Ythjdpcgkkmfodaa.Geom
open Go.RowKit Go.Proofs.Ythjdpcgkkmfodaa.Base

theorem two_int {a b c d : Int} (h : a = b) (h2 : c = d) : Ending.returned (two (.int .i64 a) (.int .i64 c)) = .returned (two (.int .i64 b) (.int .i64 d)) := by rw [h, h2]

set_option maxHeartbeats 400000 in
theorem inode_bad (p i b k : Int) (w : World) (h : ¬ Ok p i b) (k0 : 0 ≤ k) (k1 : k ≤ 1000) : Calls Try.prog 9 #[geo p i b, .int .i64 k] w (New w (two (.int .i64 0) (.int .i64 2))) := by
  have hk : (k < 0) = False := by simp; omega
  have hw1 : IntKind.i64.wrap (k - 1) = k - 1 := IntWalk.i64_in _ (by omega)
  go_enter Try.func9, Try.ntmps9
  go_wp2
  go_region_held3 (fun w' => w'.cell? ⟨w.heap.size, 0, none⟩ = some (.int .i64 p) ∧ w'.cell? ⟨w.heap.size, 1, none⟩ = some (.int .i64 i) ∧ w'.cell? ⟨w.heap.size, 2, none⟩ = some (.int .i64 b)) (simp [*, World.cell?_alloc_some, World.cell?_setCell_far])
    (first | (go_at_call 31; refine (inodes_any _).mono ?_; rintro e w1 ⟨rfl, hb1⟩; obtain ⟨hc1, hf1, hz1⟩ := bcell hb1; (try simp only [World.size_drew, World.cell?_drew, World.frozen?_drew, World.size_alloc, World.size_setCell, Nat.add_one_le_iff] at hc1 hf1 hz1)) | (go_at_call 30; refine (place_bad _ _ _ _ _ _ _ _ h).mono ?_; rintro e w2 ⟨rfl, hb2⟩; obtain ⟨hc2, hf2, hz2⟩ := bcell hb2; (try simp only [World.size_drew, World.cell?_drew, World.frozen?_drew, World.size_alloc, World.size_setCell, Nat.add_one_le_iff] at hc2 hf2 hz2)))
  all_goals (go_wp2; go_ret2; exact ⟨rfl, newT (new2d hb1) hb2⟩)

set_option maxHeartbeats 400000 in
theorem inode_out (p i b : Int) (w : World) (h : Ok p i b) : Calls Try.prog 9 #[geo p i b, .int .i64 0] w (New w (two (.int .i64 0) (.int .i64 3))) := by
  have hw1 : IntKind.i64.wrap (-1) = -1 := IntWalk.i64_in _ (by omega)
  go_enter Try.func9, Try.ntmps9
  go_wp2
  go_region_held3 (fun w' => w'.cell? ⟨w.heap.size, 0, none⟩ = some (.int .i64 p) ∧ w'.cell? ⟨w.heap.size, 1, none⟩ = some (.int .i64 i) ∧ w'.cell? ⟨w.heap.size, 2, none⟩ = some (.int .i64 b)) (simp [*, World.cell?_alloc_some, World.cell?_setCell_far])
    (first | (go_at_call 31; refine (inodes_any _).mono ?_; rintro e w1 ⟨rfl, hb1⟩; obtain ⟨hc1, hf1, hz1⟩ := bcell hb1; (try simp only [World.size_drew, World.cell?_drew, World.frozen?_drew, World.size_alloc, World.size_setCell, Nat.add_one_le_iff] at hc1 hf1 hz1)) | (go_at_call 30; refine (place_out _ _ _ _ _ _ _ _ h (by omega)).mono ?_; rintro e w2 ⟨rfl, hb2⟩; obtain ⟨hc2, hf2, hz2⟩ := bcell hb2; (try simp only [World.size_drew, World.cell?_drew, World.frozen?_drew, World.size_alloc, World.size_setCell, Nat.add_one_le_iff] at hc2 hf2 hz2)))
  all_goals (go_wp2; go_ret2; exact ⟨rfl, newT (new2d hb1) hb2⟩)

set_option maxHeartbeats 400000 in
theorem inode_in (p i b k : Int) (w : World) (h : Ok p i b) (k0 : 1 ≤ k) (k1 : k ≤ i) : Calls Try.prog 9 #[geo p i b, .int .i64 k] w (New w (two (.int .i64 (8 * k + 8)) (.int .i64 0))) := by
  obtain ⟨h1, h2, h3, h4, h5, h6⟩ := id h
  have hk : (k < 0) = False := by simp; omega
  have hw1 : IntKind.i64.wrap (k - 1) = k - 1 := IntWalk.i64_in _ (by omega)
  go_enter Try.func9, Try.ntmps9
  go_wp2
  go_region_held3 (fun w' => w'.cell? ⟨w.heap.size, 0, none⟩ = some (.int .i64 p) ∧ w'.cell? ⟨w.heap.size, 1, none⟩ = some (.int .i64 i) ∧ w'.cell? ⟨w.heap.size, 2, none⟩ = some (.int .i64 b)) (simp [*, World.cell?_alloc_some, World.cell?_setCell_far])
    (first | (go_at_call 31; refine (inodes_any _).mono ?_; rintro e w1 ⟨rfl, hb1⟩; obtain ⟨hc1, hf1, hz1⟩ := bcell hb1; (try simp only [World.size_drew, World.cell?_drew, World.frozen?_drew, World.size_alloc, World.size_setCell, Nat.add_one_le_iff] at hc1 hf1 hz1)) | (go_at_call 30; refine (place_in _ _ _ 2 1 (k - 1) i _ h (by omega) (by omega) (by omega) (by omega) (by omega) (by omega) (by omega) (by omega) (by omega)).mono ?_; rintro e w2 ⟨rfl, hb2⟩; obtain ⟨hc2, hf2, hz2⟩ := bcell hb2; (try simp only [World.size_drew, World.cell?_drew, World.frozen?_drew, World.size_alloc, World.size_setCell, Nat.add_one_le_iff] at hc2 hf2 hz2)))
  all_goals (go_wp2; go_ret2; exact ⟨two_int (by omega) rfl, newT (new2d hb1) hb2⟩)

set_option maxHeartbeats 400000 in
theorem slot_in (p i b k : Int) (w : World) (h : Ok p i b) (k0 : 0 ≤ k) (k1 : k < p) : Calls Try.prog 13 #[geo p i b, .int .i64 k] w (New w (two (.int .i64 (16 + 8 * i + 136 * k)) (.int .i64 0))) := by
  obtain ⟨h1, h2, h3, h4, h5, h6⟩ := id h
  go_enter Try.func13, Try.ntmps13
  go_wp2
  go_region_held3 (fun w' => w'.cell? ⟨w.heap.size, 0, none⟩ = some (.int .i64 p) ∧ w'.cell? ⟨w.heap.size, 1, none⟩ = some (.int .i64 i) ∧ w'.cell? ⟨w.heap.size, 2, none⟩ = some (.int .i64 b)) (simp [*, World.cell?_alloc_some, World.cell?_setCell_far])
    (first | (go_at_call 33; refine (slots_any _ _ _ _ (by omega) (by omega)).mono ?_; rintro e w1 ⟨rfl, hb1⟩; obtain ⟨hc1, hf1, hz1⟩ := bcell hb1; (try simp only [World.size_drew, World.cell?_drew, World.frozen?_drew, World.size_alloc, World.size_setCell, Nat.add_one_le_iff] at hc1 hf1 hz1)) | (go_at_call 30; refine (place_in _ _ _ (2 + i) 17 k p _ h (by omega) (by omega) (by omega) (by omega) (by omega) (by omega) (by omega) (by omega) (by omega)).mono ?_; rintro e w2 ⟨rfl, hb2⟩; obtain ⟨hc2, hf2, hz2⟩ := bcell hb2; (try simp only [World.size_drew, World.cell?_drew, World.frozen?_drew, World.size_alloc, World.size_setCell, Nat.add_one_le_iff] at hc2 hf2 hz2)))
  go_wp2
  go_ret2
  exact ⟨two_int (by omega) rfl, newT (new2d hb1) hb2⟩

set_option maxHeartbeats 400000 in
theorem slot_out (p i b : Int) (w : World) (h : Ok p i b) : Calls Try.prog 13 #[geo p i b, .int .i64 p] w (New w (two (.int .i64 0) (.int .i64 3))) := by
  obtain ⟨h1, h2, h3, h4, h5, h6⟩ := id h
  go_enter Try.func13, Try.ntmps13
  go_wp2
  go_region_held3 (fun w' => w'.cell? ⟨w.heap.size, 0, none⟩ = some (.int .i64 p) ∧ w'.cell? ⟨w.heap.size, 1, none⟩ = some (.int .i64 i) ∧ w'.cell? ⟨w.heap.size, 2, none⟩ = some (.int .i64 b)) (simp [*, World.cell?_alloc_some, World.cell?_setCell_far])
    (first | (go_at_call 33; refine (slots_any _ _ _ _ (by omega) (by omega)).mono ?_; rintro e w1 ⟨rfl, hb1⟩; obtain ⟨hc1, hf1, hz1⟩ := bcell hb1; (try simp only [World.size_drew, World.cell?_drew, World.frozen?_drew, World.size_alloc, World.size_setCell, Nat.add_one_le_iff] at hc1 hf1 hz1)) | (go_at_call 30; refine (place_out _ _ _ _ _ _ _ _ h (by omega)).mono ?_; rintro e w2 ⟨rfl, hb2⟩; obtain ⟨hc2, hf2, hz2⟩ := bcell hb2; (try simp only [World.size_drew, World.cell?_drew, World.frozen?_drew, World.size_alloc, World.size_setCell, Nat.add_one_le_iff] at hc2 hf2 hz2)))
  go_wp2
  go_ret2
  exact ⟨rfl, newT (new2d hb1) hb2⟩

set_option maxHeartbeats 400000 in
theorem block_in (p i b k : Int) (w : World) (h : Ok p i b) (k0 : 1 ≤ k) (k1 : k ≤ b) : Calls Try.prog 14 #[geo p i b, .int .i64 k] w (New w (two (.int .i64 (8 * i + 136 * p + 32 * k - 16)) (.int .i64 0))) := by
  obtain ⟨h1, h2, h3, h4, h5, h6⟩ := id h
  have hk : (k < 0) = False := by simp; omega
  have hw1 : IntKind.i64.wrap (k - 1) = k - 1 := IntWalk.i64_in _ (by omega)
  go_enter Try.func14, Try.ntmps14
  go_wp2
  go_region_held3 (fun w' => w'.cell? ⟨w.heap.size, 0, none⟩ = some (.int .i64 p) ∧ w'.cell? ⟨w.heap.size, 1, none⟩ = some (.int .i64 i) ∧ w'.cell? ⟨w.heap.size, 2, none⟩ = some (.int .i64 b)) (simp [*, World.cell?_alloc_some, World.cell?_setCell_far])
    (first | (go_at_call 29; refine (blocks_any _ _ _ _ (by omega) (by omega) (by omega) (by omega)).mono ?_; rintro e w1 ⟨rfl, hb1⟩; obtain ⟨hc1, hf1, hz1⟩ := bcell hb1; (try simp only [World.size_drew, World.cell?_drew, World.frozen?_drew, World.size_alloc, World.size_setCell, Nat.add_one_le_iff] at hc1 hf1 hz1)) | (go_at_call 30; refine (place_in _ _ _ (2 + i + 17 * p) 4 (k - 1) b _ h (by omega) (by omega) (by omega) (by omega) (by omega) (by omega) (by omega) (by omega) (by omega)).mono ?_; rintro e w2 ⟨rfl, hb2⟩; obtain ⟨hc2, hf2, hz2⟩ := bcell hb2; (try simp only [World.size_drew, World.cell?_drew, World.frozen?_drew, World.size_alloc, World.size_setCell, Nat.add_one_le_iff] at hc2 hf2 hz2)))
  all_goals (go_wp2; go_ret2; exact ⟨two_int (by omega) rfl, newT (new2d hb1) hb2⟩)

set_option maxHeartbeats 400000 in
theorem block_out (p i b : Int) (w : World) (h : Ok p i b) : Calls Try.prog 14 #[geo p i b, .int .i64 (b + 1)] w (New w (two (.int .i64 0) (.int .i64 3))) := by
  obtain ⟨h1, h2, h3, h4, h5, h6⟩ := id h
  have hk : (b + 1 < 0) = False := by simp; omega
  have hw1 : IntKind.i64.wrap (b + 1 - 1) = b := by rw [IntWalk.i64_in _ (by omega)]; omega
  have hw2 : b + 1 - 1 = b := by omega
  have hw3 : IntKind.i64.wrap b = b := IntWalk.i64_in _ (by omega)
  go_enter Try.func14, Try.ntmps14
  go_wp2
  go_region_held3 (fun w' => w'.cell? ⟨w.heap.size, 0, none⟩ = some (.int .i64 p) ∧ w'.cell? ⟨w.heap.size, 1, none⟩ = some (.int .i64 i) ∧ w'.cell? ⟨w.heap.size, 2, none⟩ = some (.int .i64 b)) (simp [*, World.cell?_alloc_some, World.cell?_setCell_far])
    (first | (go_at_call 29; refine (blocks_any _ _ _ _ (by omega) (by omega) (by omega) (by omega)).mono ?_; rintro e w1 ⟨rfl, hb1⟩; obtain ⟨hc1, hf1, hz1⟩ := bcell hb1; (try simp only [World.size_drew, World.cell?_drew, World.frozen?_drew, World.size_alloc, World.size_setCell, Nat.add_one_le_iff] at hc1 hf1 hz1)) | (go_at_call 30; refine (place_out _ _ _ _ _ _ _ _ h (by omega)).mono ?_; rintro e w2 ⟨rfl, hb2⟩; obtain ⟨hc2, hf2, hz2⟩ := bcell hb2; (try simp only [World.size_drew, World.cell?_drew, World.frozen?_drew, World.size_alloc, World.size_setCell, Nat.add_one_le_iff] at hc2 hf2 hz2)))
  all_goals (go_wp2; go_ret2; exact ⟨rfl, newT (new2d hb1) hb2⟩)

end Go.Proofs.Ythjdpcgkkmfodaa.Geom
