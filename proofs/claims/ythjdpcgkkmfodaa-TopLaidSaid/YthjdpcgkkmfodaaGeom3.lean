/- The contracts of package geom, third part: what each word of media belongs to. -/
import Derived.Test.YthjdpcgkkmfodaaGeom2
import Derived.BigRegion
namespace Go.Proofs.Ythjdpcgkkmfodaa.Geom
open Go.RowKit Go.Proofs.Ythjdpcgkkmfodaa.Base

/-- The region of a word: its kind, its number, its offset. -/
def numOf (p i a : Int) : Int := match kindOf p i (a / 8) with
  | 5 => (a - 8 * (2 + i + 17 * p)) / 32 + 1
  | 4 => (a - 8 * (2 + i)) / 136
  | 3 => (a - 16) / 8 + 1
  | _ => 0
def offOf (p i a : Int) : Int := match kindOf p i (a / 8) with
  | 5 => (a - 8 * (2 + i + 17 * p)) % 32
  | 4 => (a - 8 * (2 + i)) % 136
  | 3 => (a - 16) % 8
  | 2 => a - 8
  | _ => a
abbrev reg (k n o : Int) : Value := .agg #[.int .u8 k, .int .i64 n, .int .i64 o]

set_option maxHeartbeats 400000 in
theorem what_bad (p i b a : Int) (w : World) (h : ¬ Ok p i b) : Calls Try.prog 10 #[geo p i b, .int .i64 a] w (New w (two (reg 0 0 0) (.int .i64 2))) := by
  go_enter Try.func10, Try.ntmps10
  go_wp2_with (go_at_call 8; refine (lines_bad _ _ _ _ h).mono ?_; rintro e w1 ⟨rfl, hb1⟩; obtain ⟨hc1, hf1, hz1⟩ := bcell hb1; (try simp only [World.size_drew, World.cell?_drew, World.frozen?_drew, World.size_alloc, World.size_setCell, Nat.add_one_le_iff] at hc1 hf1 hz1))
  exact bodyPost_ret (v := two (reg 0 0 0) (.int .i64 2)) (by simp [results, Try.results10, go_sem, hc1, hf1]) rfl ⟨rfl, (((new22 hb1).setCell (by simp) _).setCell (by simp) _).setCell (by simp) _⟩

set_option maxHeartbeats 400000 in
theorem what_out (p i b a : Int) (w : World) (h : Ok p i b) (ha : a < 0 ∨ 8 * (2 + i + 17 * p + 4 * b) ≤ a) : Calls Try.prog 10 #[geo p i b, .int .i64 a] w (New w (two (reg 0 0 0) (.int .i64 3))) := by
  obtain ⟨h1, h2, h3, h4, h5, h6⟩ := id h
  rcases (show a < 0 ∨ (¬ a < 0 ∧ 8 * (2 + i + 17 * p + 4 * b) ≤ a) from by omega) with ha | ⟨ha0, ha⟩
  · go_enter Try.func10, Try.ntmps10
    go_wp2_with (go_at_call 8; refine (lines_ok _ _ _ _ h).mono ?_; rintro e w1 ⟨rfl, hb1⟩; obtain ⟨hc1, hf1, hz1⟩ := bcell hb1; (try simp only [World.size_drew, World.cell?_drew, World.frozen?_drew, World.size_alloc, World.size_setCell, Nat.add_one_le_iff] at hc1 hf1 hz1))
    exact bodyPost_ret (v := two (reg 0 0 0) (.int .i64 3)) (by simp [results, Try.results10, go_sem, hc1, hf1]) rfl ⟨rfl, (((new22 hb1).setCell (by simp) _).setCell (by simp) _).setCell (by simp) _⟩
  · go_enter Try.func10, Try.ntmps10
    go_wp2_with (go_at_call 8; refine (lines_ok _ _ _ _ h).mono ?_; rintro e w1 ⟨rfl, hb1⟩; obtain ⟨hc1, hf1, hz1⟩ := bcell hb1; (try simp only [World.size_drew, World.cell?_drew, World.frozen?_drew, World.size_alloc, World.size_setCell, Nat.add_one_le_iff] at hc1 hf1 hz1))
    exact bodyPost_ret (v := two (reg 0 0 0) (.int .i64 3)) (by simp [results, Try.results10, go_sem, hc1, hf1]) rfl ⟨rfl, (((new22 hb1).setCell (by simp) _).setCell (by simp) _).setCell (by simp) _⟩

theorem kind_eq (p i b l k : Int) (w : World) (h : Ok p i b) (hk : kindOf p i l = k) : Calls Try.prog 32 #[geo p i b, .int .i64 l] w (New w (.int .u8 k)) := by
  rw [← hk]; exact kind_any p i b l w h

set_option maxHeartbeats 800000 in
theorem what_5 (p i b a : Int) (w : World) (h : Ok p i b) (h7 : 8 * (2 + i + 17 * p) ≤ a) (h8 : a < 8 * (2 + i + 17 * p + 4 * b)) :
    Calls Try.prog 10 #[geo p i b, .int .i64 a] w (New w (two (reg 5 ((a - 8 * (2 + i + 17 * p)) / 32 + 1) ((a - 8 * (2 + i + 17 * p)) % 32)) (.int .i64 0))) := by
  obtain ⟨h1, h2, h3, h4, h5, h6⟩ := id h
  have hk : kindOf p i (a / 8) = 5 := by unfold kindOf; rw [if_pos (by omega)]
  go_enter Try.func10, Try.ntmps10
  go_wp2_with (first | (go_at_call 8; refine (lines_ok _ _ _ _ h).mono ?_; rintro e w1 ⟨rfl, hb1⟩; obtain ⟨hc1, hf1, hz1⟩ := bcell hb1; (try simp only [World.size_drew, World.cell?_drew, World.frozen?_drew, World.size_alloc, World.size_setCell, Nat.add_one_le_iff] at hc1 hf1 hz1); have hs1_0 : w.heap.size < w1.heap.size := (by omega); have hs1_1 : w.heap.size + 1 < w1.heap.size := (by omega)) | (go_at_call 32; refine (kind_eq _ _ _ _ 5 _ h hk).mono ?_; rintro e w2 ⟨rfl, hb2⟩; obtain ⟨hc2, hf2, hz2⟩ := bcell hb2; (try simp only [World.size_drew, World.cell?_drew, World.frozen?_drew, World.size_alloc, World.size_setCell, Nat.add_one_le_iff] at hc2 hf2 hz2); have hs2_0 : w.heap.size < w2.heap.size := (by omega); have hs2_1 : w.heap.size + 1 < w2.heap.size := (by omega)) | (go_at_call 29; refine (blocks_any _ _ _ _ (by omega) (by omega) (by omega) (by omega)).mono ?_; rintro e w3 ⟨rfl, hb3⟩; obtain ⟨hc3, hf3, hz3⟩ := bcell hb3; (try simp only [World.size_drew, World.cell?_drew, World.frozen?_drew, World.size_alloc, World.size_setCell, Nat.add_one_le_iff] at hc3 hf3 hz3); have hs3_0 : w.heap.size < w3.heap.size := (by omega); have hs3_1 : w.heap.size + 1 < w3.heap.size := (by omega)))
  have hx : (w3.setCell { block := w2.heap.size, off := 2 } (Value.int IntKind.i64 (a - 8 * (2 + i + 17 * p)))).cell? ⟨w2.heap.size, 2, none⟩ = some (Value.int IntKind.i64 (a - 8 * (2 + i + 17 * p))) := by simp [go_sem, hc3]
  go_region
  clear hx
  have n1 : ¬ w2.heap.size = w.heap.size + 1 := by omega
  have n2 : ¬ w.heap.size + 1 = w2.heap.size := by omega
  go_wp2
  exact bodyPost_ret (v := two (reg 5 ((a - 8 * (2 + i + 17 * p)) / 32 + 1) ((a - 8 * (2 + i + 17 * p)) % 32)) (.int .i64 0)) (by simp [results, Try.results10, go_sem, hc1, hf1, hc2, hf2, hc3, hf3, hs1_0, hs1_1, hs2_0, hs2_1, n1, n2]) rfl ⟨rfl, ((((((((newTa (newT (new22 hb1) hb2) hb3).setCell (by dsimp only; omega) _).setCell (by dsimp only; omega) _).setCell (by dsimp only; omega) _).setCell (by dsimp only; omega) _).setCell (by dsimp only; omega) _).setCell (by dsimp only; omega) _).setCell (by dsimp only; omega) _).drew⟩

set_option maxHeartbeats 800000 in
theorem what_4 (p i b a : Int) (w : World) (h : Ok p i b) (h7 : 8 * (2 + i) ≤ a) (h8 : a < 8 * (2 + i + 17 * p)) :
    Calls Try.prog 10 #[geo p i b, .int .i64 a] w (New w (two (reg 4 ((a - 8 * (2 + i)) / 136) ((a - 8 * (2 + i)) % 136)) (.int .i64 0))) := by
  obtain ⟨h1, h2, h3, h4, h5, h6⟩ := id h
  have hk : kindOf p i (a / 8) = 4 := by unfold kindOf; rw [if_neg (by omega), if_pos (by omega)]
  go_enter Try.func10, Try.ntmps10
  go_wp2_with (first | (go_at_call 8; refine (lines_ok _ _ _ _ h).mono ?_; rintro e w1 ⟨rfl, hb1⟩; obtain ⟨hc1, hf1, hz1⟩ := bcell hb1; (try simp only [World.size_drew, World.cell?_drew, World.frozen?_drew, World.size_alloc, World.size_setCell, Nat.add_one_le_iff] at hc1 hf1 hz1); have hs1_0 : w.heap.size < w1.heap.size := (by omega); have hs1_1 : w.heap.size + 1 < w1.heap.size := (by omega)) | (go_at_call 32; refine (kind_eq _ _ _ _ 4 _ h hk).mono ?_; rintro e w2 ⟨rfl, hb2⟩; obtain ⟨hc2, hf2, hz2⟩ := bcell hb2; (try simp only [World.size_drew, World.cell?_drew, World.frozen?_drew, World.size_alloc, World.size_setCell, Nat.add_one_le_iff] at hc2 hf2 hz2); have hs2_0 : w.heap.size < w2.heap.size := (by omega); have hs2_1 : w.heap.size + 1 < w2.heap.size := (by omega)) | (go_at_call 33; refine (slots_any _ _ _ _ (by omega) (by omega)).mono ?_; rintro e w3 ⟨rfl, hb3⟩; obtain ⟨hc3, hf3, hz3⟩ := bcell hb3; (try simp only [World.size_drew, World.cell?_drew, World.frozen?_drew, World.size_alloc, World.size_setCell, Nat.add_one_le_iff] at hc3 hf3 hz3); have hs3_0 : w.heap.size < w3.heap.size := (by omega); have hs3_1 : w.heap.size + 1 < w3.heap.size := (by omega)))
  have hx : (w3.setCell { block := w2.heap.size, off := 2 } (Value.int IntKind.i64 (a - 8 * (2 + i)))).cell? ⟨w2.heap.size, 2, none⟩ = some (Value.int IntKind.i64 (a - 8 * (2 + i))) := by simp [go_sem, hc3]
  go_region
  clear hx
  have n1 : ¬ w2.heap.size = w.heap.size + 1 := by omega
  have n2 : ¬ w.heap.size + 1 = w2.heap.size := by omega
  go_wp2
  exact bodyPost_ret (v := two (reg 4 ((a - 8 * (2 + i)) / 136) ((a - 8 * (2 + i)) % 136)) (.int .i64 0)) (by simp [results, Try.results10, go_sem, hc1, hf1, hc2, hf2, hc3, hf3, hs1_0, hs1_1, hs2_0, hs2_1, n1, n2]) rfl ⟨rfl, (((((((newTa (newT (new22 hb1) hb2) hb3).setCell (by dsimp only; omega) _).setCell (by dsimp only; omega) _).setCell (by dsimp only; omega) _).setCell (by dsimp only; omega) _).setCell (by dsimp only; omega) _).setCell (by dsimp only; omega) _).drew⟩

set_option maxHeartbeats 800000 in
theorem what_3 (p i b a : Int) (w : World) (h : Ok p i b) (h7 : 16 ≤ a) (h8 : a < 8 * (2 + i)) :
    Calls Try.prog 10 #[geo p i b, .int .i64 a] w (New w (two (reg 3 ((a - 16) / 8 + 1) ((a - 16) % 8)) (.int .i64 0))) := by
  obtain ⟨h1, h2, h3, h4, h5, h6⟩ := id h
  have hk : kindOf p i (a / 8) = 3 := by unfold kindOf; rw [if_neg (by omega), if_neg (by omega), if_pos (by omega)]
  go_enter Try.func10, Try.ntmps10
  go_wp2_with (first | (go_at_call 8; refine (lines_ok _ _ _ _ h).mono ?_; rintro e w1 ⟨rfl, hb1⟩; obtain ⟨hc1, hf1, hz1⟩ := bcell hb1; (try simp only [World.size_drew, World.cell?_drew, World.frozen?_drew, World.size_alloc, World.size_setCell, Nat.add_one_le_iff] at hc1 hf1 hz1); have hs1_0 : w.heap.size < w1.heap.size := (by omega); have hs1_1 : w.heap.size + 1 < w1.heap.size := (by omega)) | (go_at_call 32; refine (kind_eq _ _ _ _ 3 _ h hk).mono ?_; rintro e w2 ⟨rfl, hb2⟩; obtain ⟨hc2, hf2, hz2⟩ := bcell hb2; (try simp only [World.size_drew, World.cell?_drew, World.frozen?_drew, World.size_alloc, World.size_setCell, Nat.add_one_le_iff] at hc2 hf2 hz2); have hs2_0 : w.heap.size < w2.heap.size := (by omega); have hs2_1 : w.heap.size + 1 < w2.heap.size := (by omega)) | (go_at_call 31; refine (inodes_any _).mono ?_; rintro e w3 ⟨rfl, hb3⟩; obtain ⟨hc3, hf3, hz3⟩ := bcell hb3; (try simp only [World.size_drew, World.cell?_drew, World.frozen?_drew, World.size_alloc, World.size_setCell, Nat.add_one_le_iff] at hc3 hf3 hz3); have hs3_0 : w.heap.size < w3.heap.size := (by omega); have hs3_1 : w.heap.size + 1 < w3.heap.size := (by omega)))
  have hx : (w3.setCell { block := w2.heap.size, off := 2 } (Value.int IntKind.i64 (a - 16))).cell? ⟨w2.heap.size, 2, none⟩ = some (Value.int IntKind.i64 (a - 16)) := by simp [go_sem, hc3]
  go_region
  clear hx
  have n1 : ¬ w2.heap.size = w.heap.size + 1 := by omega
  have n2 : ¬ w.heap.size + 1 = w2.heap.size := by omega
  go_wp2
  exact bodyPost_ret (v := two (reg 3 ((a - 16) / 8 + 1) ((a - 16) % 8)) (.int .i64 0)) (by simp [results, Try.results10, go_sem, hc1, hf1, hc2, hf2, hc3, hf3, hs1_0, hs1_1, hs2_0, hs2_1, n1, n2]) rfl ⟨rfl, ((((((((newTa (newT (new22 hb1) hb2) hb3).setCell (by dsimp only; omega) _).setCell (by dsimp only; omega) _).setCell (by dsimp only; omega) _).setCell (by dsimp only; omega) _).setCell (by dsimp only; omega) _).setCell (by dsimp only; omega) _).setCell (by dsimp only; omega) _).drew⟩

set_option maxHeartbeats 800000 in
theorem what_2 (p i b a : Int) (w : World) (h : Ok p i b) (h7 : 8 ≤ a) (h8 : a < 16) :
    Calls Try.prog 10 #[geo p i b, .int .i64 a] w (New w (two (reg 2 ((a - 8) / 8) (a % 8)) (.int .i64 0))) := by
  obtain ⟨h1, h2, h3, h4, h5, h6⟩ := id h
  have hk : kindOf p i (a / 8) = 2 := by unfold kindOf; rw [if_neg (by omega), if_neg (by omega), if_neg (by omega), if_pos (by omega)]
  go_enter Try.func10, Try.ntmps10
  go_wp2_with (first | (go_at_call 8; refine (lines_ok _ _ _ _ h).mono ?_; rintro e w1 ⟨rfl, hb1⟩; obtain ⟨hc1, hf1, hz1⟩ := bcell hb1; (try simp only [World.size_drew, World.cell?_drew, World.frozen?_drew, World.size_alloc, World.size_setCell, Nat.add_one_le_iff] at hc1 hf1 hz1); have hs1_0 : w.heap.size < w1.heap.size := (by omega); have hs1_1 : w.heap.size + 1 < w1.heap.size := (by omega)) | (go_at_call 32; refine (kind_eq _ _ _ _ 2 _ h hk).mono ?_; rintro e w2 ⟨rfl, hb2⟩; obtain ⟨hc2, hf2, hz2⟩ := bcell hb2; (try simp only [World.size_drew, World.cell?_drew, World.frozen?_drew, World.size_alloc, World.size_setCell, Nat.add_one_le_iff] at hc2 hf2 hz2); have hs2_0 : w.heap.size < w2.heap.size := (by omega); have hs2_1 : w.heap.size + 1 < w2.heap.size := (by omega)))
  go_region
  have n1 : ¬ w2.heap.size = w.heap.size + 1 := by omega
  have n2 : ¬ w.heap.size + 1 = w2.heap.size := by omega
  go_wp2
  exact bodyPost_ret (v := two (reg 2 ((a - 8) / 8) (a % 8)) (.int .i64 0)) (by simp [results, Try.results10, go_sem, hc1, hf1, hc2, hf2, hs1_0, hs1_1, hs2_0, hs2_1, n1, n2]) rfl ⟨rfl, (((((newT (new22 hb1) hb2).setCell (by dsimp only; omega) _).setCell (by dsimp only; omega) _).setCell (by dsimp only; omega) _).alloc (by simp only [World.size_setCell]; omega) _).drew⟩

set_option maxHeartbeats 800000 in
theorem what_1 (p i b a : Int) (w : World) (h : Ok p i b) (h7 : 0 ≤ a) (h8 : a < 8) :
    Calls Try.prog 10 #[geo p i b, .int .i64 a] w (New w (two (reg 1 (a / 8) (a % 8)) (.int .i64 0))) := by
  obtain ⟨h1, h2, h3, h4, h5, h6⟩ := id h
  have hk : kindOf p i (a / 8) = 1 := by unfold kindOf; rw [if_neg (by omega), if_neg (by omega), if_neg (by omega), if_neg (by omega)]
  go_enter Try.func10, Try.ntmps10
  go_wp2_with (first | (go_at_call 8; refine (lines_ok _ _ _ _ h).mono ?_; rintro e w1 ⟨rfl, hb1⟩; obtain ⟨hc1, hf1, hz1⟩ := bcell hb1; (try simp only [World.size_drew, World.cell?_drew, World.frozen?_drew, World.size_alloc, World.size_setCell, Nat.add_one_le_iff] at hc1 hf1 hz1); have hs1_0 : w.heap.size < w1.heap.size := (by omega); have hs1_1 : w.heap.size + 1 < w1.heap.size := (by omega)) | (go_at_call 32; refine (kind_eq _ _ _ _ 1 _ h hk).mono ?_; rintro e w2 ⟨rfl, hb2⟩; obtain ⟨hc2, hf2, hz2⟩ := bcell hb2; (try simp only [World.size_drew, World.cell?_drew, World.frozen?_drew, World.size_alloc, World.size_setCell, Nat.add_one_le_iff] at hc2 hf2 hz2); have hs2_0 : w.heap.size < w2.heap.size := (by omega); have hs2_1 : w.heap.size + 1 < w2.heap.size := (by omega)))
  go_region
  have n1 : ¬ w2.heap.size = w.heap.size + 1 := by omega
  have n2 : ¬ w.heap.size + 1 = w2.heap.size := by omega
  go_wp2
  exact bodyPost_ret (v := two (reg 1 (a / 8) (a % 8)) (.int .i64 0)) (by simp [results, Try.results10, go_sem, hc1, hf1, hc2, hf2, hs1_0, hs1_1, hs2_0, hs2_1, n1, n2]) rfl ⟨rfl, (((((newT (new22 hb1) hb2).setCell (by dsimp only; omega) _).setCell (by dsimp only; omega) _).setCell (by dsimp only; omega) _).alloc (by simp only [World.size_setCell]; omega) _).drew⟩

end Go.Proofs.Ythjdpcgkkmfodaa.Geom
