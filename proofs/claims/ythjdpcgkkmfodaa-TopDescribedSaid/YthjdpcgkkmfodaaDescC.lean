/- The contracts of package desc, third part: New, Open, Get, Move, Dup, Close. -/
import Derived.Test.YthjdpcgkkmfodaaDescB
namespace Go.Proofs.Ythjdpcgkkmfodaa.Desc
open Go.RowKit Go.Proofs.Ythjdpcgkkmfodaa.Base
set_option linter.unusedVariables false
set_option linter.unusedSimpArgs false

abbrev fileC (ino gen off : Int) : Array Value := #[.bool false, .int .i64 ino, .int .u32 gen, .bool false, .int .u8 3, .int .i64 off]
abbrev fileV (ino gen off : Int) : Value := .agg #[.bool false, .int .i64 ino, .int .u32 gen, .bool false, .int .u8 3, .int .i64 off]
abbrev noFile : Value := .agg #[.bool false, .int .i64 0, .int .u32 0, .bool false, .int .u8 0, .int .i64 0]
def FileAt (w : World) (b : Nat) (c : Int × Int × Int) : Prop := w.heap[b]? = some (.cells (fileC c.1 c.2.1 c.2.2) 47 (0, 0))
theorem FileAt.cells {w : World} {b : Nat} {x y z : Int} (h : FileAt w b (x, y, z)) : w.cell? ⟨b, 0, none⟩ = some (.bool false) ∧ w.cell? ⟨b, 1, none⟩ = some (.int .i64 x) ∧ w.cell? ⟨b, 2, none⟩ = some (.int .u32 y) ∧
    w.cell? ⟨b, 3, none⟩ = some (.bool false) ∧ w.cell? ⟨b, 4, none⟩ = some (.int .u8 3) ∧ w.cell? ⟨b, 5, none⟩ = some (.int .i64 z) ∧ w.frozen? ⟨b, 5, none⟩ = false := by
  have h' : w.heap[b]? = some (.cells (fileC x y z) 47 (0, 0)) := h
  refine ⟨?_, ?_, ?_, ?_, ?_, ?_, ?_⟩ <;> simp [World.cell?, World.frozen?, h']
theorem FileAt.lt {w : World} {b : Nat} {c : Int × Int × Int} (h : FileAt w b c) : b < w.heap.size := lt_of_block h
theorem FileAt.move {w : World} {b : Nat} {x y z : Int} (h : FileAt w b (x, y, z)) (z' : Int) : FileAt (w.setCell ⟨b, 5, none⟩ (.int .i64 z')) b (x, y, z') := by
  have h' : w.heap[b]? = some (.cells (fileC x y z) 47 (0, 0)) := h
  unfold FileAt
  simp only [World.setCell, Array.getElem?_modify, ↓reduceIte, h', Option.map_some]
  simp

def nilTab : Nat → Option Nat := fun _ => none

set_option maxRecDepth 100000 in
set_option maxHeartbeats 800000 in
theorem new_any (w : World) : Calls Try.prog 15 #[] w fun e w' => e = .returned (.pointer (some ⟨w.heap.size, 0, none⟩)) ∧ w' = w.alloc (.cells (eight nilTab) 72) := by
  go_enter Try.func15, Try.ntmps15
  go_wp2
  go_ret
  exact ⟨rfl, rfl⟩

/-- World w' is w with new blocks, and with writes to block T alone. -/
abbrev Only (T : Nat) (w w' : World) : Prop := w.grownBy w' (some T)

set_option maxRecDepth 100000 in
set_option maxHeartbeats 800000 in
theorem open_full (T : Nat) (f : Nat → Option Nat) (x y z : Int) (w : World) (hT : Tab 72 T w f) (h : firstFree f = none) :
    Calls Try.prog 17 #[.pointer (some ⟨T, 0, none⟩), fileV x y z] w fun e w' => e = .returned (two (.int .i64 0) (.int .i64 624)) ∧ w' = w.alloc (.cells (fileC x y z) 47) := by
  have hT' : Tab 72 T (w.alloc (.cells (fileC x y z) 47)) f := hT.far (heap_alloc_old w _ hT.lt)
  have hc := free_any T f _ hT'
  unfold freeV at hc
  rw [h] at hc
  have HC := Lib.hid hc; clear hc hT' hT h
  go_enter Try.func17, Try.ntmps17
  go_wp2_with (go_at_call 34; refine HC.out.mono ?_; rintro e w' ⟨rfl, rfl⟩)
  go_ret2
  exact ⟨rfl, rfl⟩

set_option maxRecDepth 100000 in
set_option maxHeartbeats 800000 in
theorem open_ok (T k : Nat) (f : Nat → Option Nat) (x y z : Int) (w : World) (hT : Tab 72 T w f) (h : firstFree f = some k) :
    Calls Try.prog 17 #[.pointer (some ⟨T, 0, none⟩), fileV x y z] w fun e w' => e = .returned (two (.int .i64 k) (.int .i64 0)) ∧
      w' = (w.setCell ⟨T, k, none⟩ (ptr (some w.heap.size))).alloc (.cells (fileC x y z) 47) := by
  obtain ⟨hk, hfk⟩ := firstFree_lt h
  have hT' : Tab 72 T (w.alloc (.cells (fileC x y z) 47)) f := hT.far (heap_alloc_old w _ hT.lt)
  have hc := free_any T f _ hT'
  unfold freeV at hc
  rw [h] at hc
  have HC := Lib.hid hc; clear hc hT'
  have c1 := hT.cell k hk
  have c2 := hT.free k
  have hlt := hT.lt
  have HT := Lib.hid hT; clear hT h hfk
  go_enter Try.func17, Try.ntmps17
  go_wp2_with (go_at_call 34; refine HC.out.mono ?_; rintro e w' ⟨rfl, rfl⟩)
  go_ret2
  exact ⟨rfl, rfl⟩

set_option maxRecDepth 100000 in
set_option maxHeartbeats 800000 in
theorem get_bad (T : Nat) (f : Nat → Option Nat) (fd : Int) (w : World) (hT : Tab 72 T w f) (h : fd < 0 ∨ 8 ≤ fd ∨ f fd.toNat = none) :
    Calls Try.prog 22 #[.pointer (some ⟨T, 0, none⟩), .int .i64 fd] w (New w (two noFile (.int .i64 609))) := by
  have hT' : Tab 72 T (w.alloc (.cells #[.bool false, .int .i64 0, .int .u32 0, .bool false, .int .u8 0, .int .i64 0] 47)) f := hT.far (heap_alloc_old w _ hT.lt)
  have HC := Lib.hid (file_bad T f fd _ hT' h); clear hT' hT h
  go_enter Try.func22, Try.ntmps22
  go_wp2_with (go_at_call 35; refine HC.out.mono ?_; rintro e w' ⟨rfl, rfl⟩)
  exact bodyPost_ret (v := two noFile (.int .i64 609)) (by simp [results, Try.results22, go_sem]) rfl ⟨rfl, (Below.refl _ _).alloc (Nat.le_refl _) _⟩

set_option maxRecDepth 100000 in
set_option maxHeartbeats 800000 in
theorem get_ok (T b k : Nat) (f : Nat → Option Nat) (x y z : Int) (w : World) (hT : Tab 72 T w f) (hk : k < 8) (h : f k = some b) (hF : FileAt w b (x, y, z)) :
    Calls Try.prog 22 #[.pointer (some ⟨T, 0, none⟩), .int .i64 k] w (New w (two (fileV x y z) (.int .i64 0))) := by
  have hT' : Tab 72 T (w.alloc (.cells #[.bool false, .int .i64 0, .int .u32 0, .bool false, .int .u8 0, .int .i64 0] 47)) f := hT.far (heap_alloc_old w _ hT.lt)
  have HC := Lib.hid (file_ok T b f k _ hT' hk h); clear hT' hT h
  obtain ⟨c0, c1, c2, c3, c4, c5, c6⟩ := hF.cells
  have hl := hF.lt
  have HF := Lib.hid hF; clear hF c6
  go_enter Try.func22, Try.ntmps22
  go_wp2_with (go_at_call 35; refine HC.out.mono ?_; rintro e w' ⟨rfl, rfl⟩)
  exact bodyPost_ret (v := two (fileV x y z) (.int .i64 0)) (by simp [results, Try.results22, go_sem]) rfl ⟨rfl, (Below.refl _ _).alloc (Nat.le_refl _) _⟩

set_option maxRecDepth 100000 in
set_option maxHeartbeats 800000 in
theorem move_bad (T : Nat) (f : Nat → Option Nat) (fd off : Int) (w : World) (hT : Tab 72 T w f) (h : fd < 0 ∨ 8 ≤ fd ∨ f fd.toNat = none) :
    Calls Try.prog 18 #[.pointer (some ⟨T, 0, none⟩), .int .i64 fd, .int .i64 off] w fun e w' => e = .returned (.int .i64 609) ∧ w = w' := by
  have HC := Lib.hid (file_bad T f fd w hT h); clear hT h
  go_enter Try.func18, Try.ntmps18
  go_wp2_with (go_at_call 35; refine HC.out.mono ?_; rintro e w' ⟨rfl, rfl⟩)
  go_ret
  exact ⟨rfl, rfl⟩

set_option maxRecDepth 100000 in
set_option maxHeartbeats 800000 in
theorem move_neg (T b k : Nat) (f : Nat → Option Nat) (off : Int) (w : World) (hT : Tab 72 T w f) (hk : k < 8) (h : f k = some b) (ho : off < 0) :
    Calls Try.prog 18 #[.pointer (some ⟨T, 0, none⟩), .int .i64 k, .int .i64 off] w fun e w' => e = .returned (.int .i64 622) ∧ w = w' := by
  have HC := Lib.hid (file_ok T b f k w hT hk h); clear hT h
  go_enter Try.func18, Try.ntmps18
  go_wp2_with (go_at_call 35; refine HC.out.mono ?_; rintro e w' ⟨rfl, rfl⟩)
  go_ret
  exact ⟨rfl, rfl⟩

set_option maxRecDepth 100000 in
set_option maxHeartbeats 800000 in
theorem move_ok (T b k : Nat) (f : Nat → Option Nat) (x y z off : Int) (w : World) (hT : Tab 72 T w f) (hk : k < 8) (h : f k = some b) (hF : FileAt w b (x, y, z)) (ho : ¬ off < 0) :
    Calls Try.prog 18 #[.pointer (some ⟨T, 0, none⟩), .int .i64 k, .int .i64 off] w fun e w' => e = .returned (.int .i64 0) ∧ w' = w.setCell ⟨b, 5, none⟩ (.int .i64 off) := by
  have HC := Lib.hid (file_ok T b f k w hT hk h); clear hT h
  obtain ⟨c0, c1, c2, c3, c4, c5, c6⟩ := hF.cells
  have HF := Lib.hid hF; clear hF
  go_enter Try.func18, Try.ntmps18
  go_wp2_with (go_at_call 35; refine HC.out.mono ?_; rintro e w' ⟨rfl, rfl⟩)
  go_ret
  exact ⟨rfl, rfl⟩

set_option maxRecDepth 100000 in
set_option maxHeartbeats 800000 in
theorem dup_bad (T : Nat) (f : Nat → Option Nat) (fd : Int) (w : World) (hT : Tab 72 T w f) (h : fd < 0 ∨ 8 ≤ fd ∨ f fd.toNat = none) :
    Calls Try.prog 19 #[.pointer (some ⟨T, 0, none⟩), .int .i64 fd] w fun e w' => e = .returned (two (.int .i64 0) (.int .i64 609)) ∧ w = w' := by
  have HC := Lib.hid (file_bad T f fd w hT h); clear hT h
  go_enter Try.func19, Try.ntmps19
  go_wp2_with (go_at_call 35; refine HC.out.mono ?_; rintro e w' ⟨rfl, rfl⟩)
  go_ret2
  exact ⟨rfl, rfl⟩

set_option maxRecDepth 100000 in
set_option maxHeartbeats 800000 in
theorem dup_full (T b k : Nat) (f : Nat → Option Nat) (w : World) (hT : Tab 72 T w f) (hk : k < 8) (h : f k = some b) (hn : firstFree f = none) :
    Calls Try.prog 19 #[.pointer (some ⟨T, 0, none⟩), .int .i64 k] w fun e w' => e = .returned (two (.int .i64 0) (.int .i64 624)) ∧ w = w' := by
  have HC := Lib.hid (file_ok T b f k w hT hk h)
  have hc := free_any T f _ hT
  unfold freeV at hc
  rw [hn] at hc
  have HD := Lib.hid hc; clear hc hT h hn
  go_enter Try.func19, Try.ntmps19
  go_wp2_with (first | (go_at_call 35; refine HC.out.mono ?_; rintro e w' ⟨rfl, rfl⟩) | (go_at_call 34; refine HD.out.mono ?_; rintro e w' ⟨rfl, rfl⟩))
  go_ret2
  exact ⟨rfl, rfl⟩

set_option maxRecDepth 100000 in
set_option maxHeartbeats 800000 in
theorem dup_ok (T b k m : Nat) (f : Nat → Option Nat) (w : World) (hT : Tab 72 T w f) (hk : k < 8) (h : f k = some b) (hn : firstFree f = some m) :
    Calls Try.prog 19 #[.pointer (some ⟨T, 0, none⟩), .int .i64 k] w fun e w' => e = .returned (two (.int .i64 m) (.int .i64 0)) ∧ w' = w.setCell ⟨T, m, none⟩ (ptr (some b)) := by
  obtain ⟨hm, hfm⟩ := firstFree_lt hn
  have HC := Lib.hid (file_ok T b f k w hT hk h)
  have hc := free_any T f _ hT
  unfold freeV at hc
  rw [hn] at hc
  have HD := Lib.hid hc; clear hc
  have c1 := hT.cell m hm
  have c2 := hT.free m
  clear hT h hn hfm
  go_enter Try.func19, Try.ntmps19
  go_wp2_with (first | (go_at_call 35; refine HC.out.mono ?_; rintro e w' ⟨rfl, rfl⟩) | (go_at_call 34; refine HD.out.mono ?_; rintro e w' ⟨rfl, rfl⟩))
  go_ret2
  exact ⟨rfl, rfl⟩
end Go.Proofs.Ythjdpcgkkmfodaa.Desc
