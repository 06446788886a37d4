/- The contracts of package geom: what each function answers, for layouts that are none and for those that are. -/
import Derived.Test.YthjdpcgkkmfodaaRows
import Derived.Test.YthjdpcgkkmfodaaBase
import Derived.WalkKit
import Derived.WalkSpells
import Derived.WalkLawsBesides
import Derived.Deep.RegionWith
import Derived.Deep.RegionHeld3
import Derived.Deep.Draws
import Derived.Deep.QuietTactic
import Derived.BigQuiet
import Derived.Lib.Hide
namespace Go.Proofs.Ythjdpcgkkmfodaa.Geom
open Go.RowKit Go.Proofs.Ythjdpcgkkmfodaa.Base

def Ok (p i b : Int) : Prop := 1 ≤ p ∧ p ≤ 8 ∧ 2 ≤ i ∧ i ≤ 64 ∧ 4 ≤ b ∧ b ≤ 255

abbrev geo (p i b : Int) : Value := .agg #[.int .i64 p, .int .i64 i, .int .i64 b]

set_option maxHeartbeats 400000 in
theorem sum_any (x y : Int) (b : Nat) (w : World) (hx : w.cell? ⟨b, 0, none⟩ = some (.int .i64 x)) (hy : w.cell? ⟨b, 1, none⟩ = some (.int .i64 y))
    (h0 : 0 ≤ x) (h1 : x ≤ 100000) (h2 : 0 ≤ y) (h3 : y ≤ 100000) :
    Calls Try.prog 28 #[.slice (some ⟨b, 0, none⟩) 2 2] w fun e w' => e = .returned (.int .i64 (x + y)) ∧ w = w' := by
  go_enter Try.func28, Try.ntmps28
  go_wp2
  go_loop [3, 8] (fun n i => ∃ k : Nat, k ≤ 2 ∧ i = .int .i64 k ∧ n = .int .i64 (if k = 0 then 0 else if k = 1 then x else x + y)) (fun _ i => 2 - (intOf i).toNat)
  case atStart => exact ⟨0, by omega, rfl, rfl⟩
  case round =>
    obtain ⟨k, hk, rfl, rfl⟩ := hrel
    have : k = 0 ∨ k = 1 ∨ k = 2 := by omega
    rcases this with rfl | rfl | rfl
    · go_wp2
      go_round
      case rel => exact ⟨1, by omega, by go_num, by go_num⟩
      case measure => simp [intOf]
    · go_wp2
      go_round
      case rel => exact ⟨2, by omega, by go_num, by go_num⟩
      case measure => simp [intOf]
    · go_wp2
      go_ret
      exact ⟨rfl, rfl⟩

set_option maxHeartbeats 400000 in
theorem inodes_any (w : World) : Calls Try.prog 31 #[] w (New w (.int .i64 2)) := by
  go_enter Try.func31, Try.ntmps31
  go_wp2_with (go_at_call 28; refine (sum_any 1 1 _ _ (by simp) (by simp) (by omega) (by omega) (by omega) (by omega)).mono ?_; rintro e w' ⟨rfl, rfl⟩)
  go_ret
  exact ⟨rfl, (Below.refl _ _).alloc (Nat.le_refl _) _⟩

set_option maxHeartbeats 400000 in
theorem slots_any (p i b : Int) (w : World) (hi : 0 ≤ i) (hi2 : i ≤ 1000) : Calls Try.prog 33 #[geo p i b] w (New w (.int .i64 (2 + i))) := by
  have hw1 : IntKind.i64.wrap i = i := IntWalk.i64_in _ (by omega)
  go_enter Try.func33, Try.ntmps33
  go_wp2
  go_region_held3 (fun w' => w'.cell? ⟨w.heap.size, 1, none⟩ = some (.int .i64 i)) (simp [*, World.cell?_alloc_some, World.cell?_setCell_far])
    (first | (go_at_call 31; refine (inodes_any _).mono ?_; rintro e w1 ⟨rfl, hb1⟩; obtain ⟨hc1, hf1, hz1⟩ := bcell hb1; (try simp only [World.size_drew, World.cell?_drew, World.frozen?_drew, World.size_alloc, World.size_setCell, Nat.add_one_le_iff] at hc1 hf1 hz1)) | (go_at_call 28; refine (sum_any 2 i _ _ (by simp) (by simp) (by omega) (by omega) (by omega) (by omega)).mono ?_; rintro e w2 ⟨rfl, rfl⟩))
  clear hw1
  go_wp2
  go_ret
  exact ⟨rfl, new3 (new2d hb1) (Nat.le_refl _)⟩

set_option maxHeartbeats 400000 in
theorem blocks_any (p i b : Int) (w : World) (hi : 0 ≤ i) (hi2 : i ≤ 1000) (hp : 0 ≤ p) (hp2 : p ≤ 1000) : Calls Try.prog 29 #[geo p i b] w (New w (.int .i64 (2 + i + 17 * p))) := by
  have hw1 : IntKind.i64.wrap (17 * p) = 17 * p := IntWalk.i64_in _ (by omega)
  go_enter Try.func29, Try.ntmps29
  go_wp2
  go_region_held3 (fun w' => w'.cell? ⟨w.heap.size, 0, none⟩ = some (.int .i64 p) ∧ w'.cell? ⟨w.heap.size, 1, none⟩ = some (.int .i64 i) ∧ w'.cell? ⟨w.heap.size, 2, none⟩ = some (.int .i64 b)) (simp [*, World.cell?_alloc_some, World.cell?_setCell_far])
    (first | (go_at_call 33; refine (slots_any _ _ _ _ (by omega) (by omega)).mono ?_; rintro e w1 ⟨rfl, hb1⟩; obtain ⟨hc1, hf1, hz1⟩ := bcell hb1; (try simp only [World.size_drew, World.cell?_drew, World.frozen?_drew, World.size_alloc, World.size_setCell, Nat.add_one_le_iff] at hc1 hf1 hz1)) | (go_at_call 28; refine (sum_any (2 + i) (17 * p) _ _ (by simp) (by simp) (by omega) (by omega) (by omega) (by omega)).mono ?_; rintro e w2 ⟨rfl, rfl⟩))
  clear hw1
  go_wp2
  go_ret
  exact ⟨rfl, new3 (new2d hb1) (Nat.le_refl _)⟩

set_option maxHeartbeats 400000 in
theorem check_ok (p i b : Int) (w : World) (h : Ok p i b) : Calls Try.prog 11 #[geo p i b] w (New w (.int .i64 0)) := by
  obtain ⟨h1, h2, h3, h4, h5, h6⟩ := h
  go_enter Try.func11, Try.ntmps11
  go_wp2
  go_ret
  exact ⟨rfl, (Below.refl _ _).alloc (Nat.le_refl _) _⟩

set_option maxHeartbeats 400000 in
theorem check_bad (p i b : Int) (w : World) (h : ¬ Ok p i b) : Calls Try.prog 11 #[geo p i b] w (New w (.int .i64 2)) := by
  go_enter Try.func11, Try.ntmps11
  go_wp2
  all_goals first
    | (go_ret; exact ⟨rfl, (Below.refl _ _).alloc (Nat.le_refl _) _⟩)
    | (exfalso; exact h ⟨by omega, by omega, by omega, by omega, by omega, by omega⟩)

abbrev two (a b : Value) : Value := .tuple #[a, b]

set_option maxHeartbeats 400000 in
theorem lines_bad (p i b : Int) (w : World) (h : ¬ Ok p i b) : Calls Try.prog 8 #[geo p i b] w (New w (two (.int .i64 0) (.int .i64 2))) := by
  go_enter Try.func8, Try.ntmps8
  go_wp2_with (go_at_call 11; refine (check_bad _ _ _ _ h).mono ?_; rintro e w1 ⟨rfl, hb1⟩)
  go_ret2
  exact ⟨rfl, new2 hb1⟩

set_option maxHeartbeats 400000 in
theorem lines_ok (p i b : Int) (w : World) (h : Ok p i b) : Calls Try.prog 8 #[geo p i b] w (New w (two (.int .i64 (2 + i + 17 * p + 4 * b)) (.int .i64 0))) := by
  obtain ⟨h1, h2, h3, h4, h5, h6⟩ := id h
  have hw1 : IntKind.i64.wrap (4 * b) = 4 * b := IntWalk.i64_in _ (by omega)
  go_enter Try.func8, Try.ntmps8
  go_wp2_with (go_at_call 11; refine (check_ok _ _ _ _ h).mono ?_; rintro e w1 ⟨rfl, hb1⟩; obtain ⟨hc1, hf1, hz1⟩ := bcell hb1; (try simp only [World.size_drew, World.cell?_drew, World.frozen?_drew, World.size_alloc, World.size_setCell, Nat.add_one_le_iff] at hc1 hf1 hz1))
  go_region_held3 (fun w' => w'.cell? ⟨w.heap.size, 0, none⟩ = some (.int .i64 p) ∧ w'.cell? ⟨w.heap.size, 1, none⟩ = some (.int .i64 i) ∧ w'.cell? ⟨w.heap.size, 2, none⟩ = some (.int .i64 b)) (simp [*, World.cell?_alloc_some, World.cell?_setCell_far])
    (first | (go_at_call 29; refine (blocks_any _ _ _ _ (by omega) (by omega) (by omega) (by omega)).mono ?_; rintro e w2 ⟨rfl, hb2⟩; obtain ⟨hc2, hf2, hz2⟩ := bcell hb2; (try simp only [World.size_drew, World.cell?_drew, World.frozen?_drew, World.size_alloc, World.size_setCell, Nat.add_one_le_iff] at hc2 hf2 hz2)) | (go_at_call 28; refine (sum_any (2 + i + 17 * p) (4 * b) _ _ (by simp) (by simp) (by omega) (by omega) (by omega) (by omega)).mono ?_; rintro e w2 ⟨rfl, rfl⟩))
  clear hw1
  go_wp2
  go_ret2
  exact ⟨rfl, new3 (newTd (new2 hb1) hb2) (Nat.le_refl _)⟩

set_option maxHeartbeats 400000 in
theorem place_bad (p i b f l k n : Int) (w : World) (h : ¬ Ok p i b) : Calls Try.prog 30 #[geo p i b, .int .i64 f, .int .i64 l, .int .i64 k, .int .i64 n] w (New w (two (.int .i64 0) (.int .i64 2))) := by
  go_enter Try.func30, Try.ntmps30
  go_wp2_with (go_at_call 11; refine (check_bad _ _ _ _ h).mono ?_; rintro e w1 ⟨rfl, hb1⟩)
  go_ret2
  exact ⟨rfl, new2 hb1⟩

set_option maxHeartbeats 400000 in
theorem place_in (p i b f l k n : Int) (w : World) (h : Ok p i b) (f0 : 0 ≤ f) (f1 : f ≤ 1000) (l0 : 0 ≤ l) (l1 : l ≤ 20) (k0 : 0 ≤ k) (k1 : k < n) (n1 : n ≤ 255) (m0 : 0 ≤ l * k) (m1 : l * k ≤ 10000) :
    Calls Try.prog 30 #[geo p i b, .int .i64 f, .int .i64 l, .int .i64 k, .int .i64 n] w (New w (two (.int .i64 (8 * (f + l * k))) (.int .i64 0))) := by
  go_enter Try.func30, Try.ntmps30
  go_wp2_with (go_at_call 11; refine (check_ok _ _ _ _ h).mono ?_; rintro e w1 ⟨rfl, hb1⟩)
  go_ret2
  exact ⟨rfl, new2 hb1⟩

set_option maxHeartbeats 400000 in
theorem place_out (p i b f l k n : Int) (w : World) (h : Ok p i b) (hk : ¬ (0 ≤ k ∧ k < n)) :
    Calls Try.prog 30 #[geo p i b, .int .i64 f, .int .i64 l, .int .i64 k, .int .i64 n] w (New w (two (.int .i64 0) (.int .i64 3))) := by
  go_enter Try.func30, Try.ntmps30
  go_wp2_with (go_at_call 11; refine (check_ok _ _ _ _ h).mono ?_; rintro e w1 ⟨rfl, hb1⟩)
  all_goals first
    | (go_ret2; exact ⟨rfl, new2 hb1⟩)
    | (exfalso; omega)

def kindOf (p i l : Int) : Int := if 2 + i + 17 * p ≤ l then 5 else if 2 + i ≤ l then 4 else if 2 ≤ l then 3 else if 1 ≤ l then 2 else 1

theorem ret_u8 {a b : Int} (h : a = b) : Ending.returned (.int .u8 a) = .returned (.int .u8 b) := by rw [h]

set_option maxHeartbeats 400000 in
theorem kind_any (p i b l : Int) (w : World) (h : Ok p i b) : Calls Try.prog 32 #[geo p i b, .int .i64 l] w (New w (.int .u8 (kindOf p i l))) := by
  obtain ⟨h1, h2, h3, h4, h5, h6⟩ := id h
  go_enter Try.func32, Try.ntmps32
  go_wp2_with (first | (go_at_call 29; refine (blocks_any _ _ _ _ (by omega) (by omega) (by omega) (by omega)).mono ?_; rintro e w1 ⟨rfl, hb1⟩; obtain ⟨hc1, hf1, hz1⟩ := bcell hb1; (try simp only [World.size_drew, World.cell?_drew, World.frozen?_drew, World.size_alloc, World.size_setCell, Nat.add_one_le_iff] at hc1 hf1 hz1)) | (go_at_call 33; refine (slots_any _ _ _ _ (by omega) (by omega)).mono ?_; rintro e w2 ⟨rfl, hb2⟩; obtain ⟨hc2, hf2, hz2⟩ := bcell hb2; (try simp only [World.size_drew, World.cell?_drew, World.frozen?_drew, World.size_alloc, World.size_setCell, Nat.add_one_le_iff] at hc2 hf2 hz2)) | (go_at_call 31; refine (inodes_any _).mono ?_; rintro e w3 ⟨rfl, hb3⟩; obtain ⟨hc3, hf3, hz3⟩ := bcell hb3; (try simp only [World.size_drew, World.cell?_drew, World.frozen?_drew, World.size_alloc, World.size_setCell, Nat.add_one_le_iff] at hc3 hf3 hz3)))
  · go_ret; exact ⟨ret_u8 (by unfold kindOf; rw [if_pos (by assumption)]), new2 hb1⟩
  · go_ret; exact ⟨ret_u8 (by unfold kindOf; rw [if_neg (by omega), if_pos (by omega)]), newT (new2 hb1) hb2⟩
  · go_ret; exact ⟨ret_u8 (by unfold kindOf; rw [if_neg (by omega), if_neg (by omega), if_pos (by omega)]), newT (newT (new2 hb1) hb2) hb3⟩
  · go_ret; exact ⟨ret_u8 (by unfold kindOf; rw [if_neg (by omega), if_neg (by omega), if_neg (by omega), if_pos (by omega)]), newT (newT (new2 hb1) hb2) hb3⟩
  · go_ret; exact ⟨ret_u8 (by unfold kindOf; rw [if_neg (by omega), if_neg (by omega), if_neg (by omega), if_neg (by omega)]), newT (newT (new2 hb1) hb2) hb3⟩
end Go.Proofs.Ythjdpcgkkmfodaa.Geom
