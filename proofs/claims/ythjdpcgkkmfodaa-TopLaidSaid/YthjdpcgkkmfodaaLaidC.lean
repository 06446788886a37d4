/- TopLaid, third part: the regions word by word, as plain numbers, and what the layout says of each word. -/
import Derived.Test.YthjdpcgkkmfodaaLaidA
namespace Go.Proofs.Ythjdpcgkkmfodaa.Laid
open Go.RowKit Go.Proofs.Ythjdpcgkkmfodaa.Base Go.Proofs.Ythjdpcgkkmfodaa.Geom

def reg3 (p i a : Int) : Int × Int × Int :=
  if 8 * (2 + i + 17 * p) ≤ a then (5, (a - 8 * (2 + i + 17 * p)) / 32 + 1, (a - 8 * (2 + i + 17 * p)) % 32)
  else if 8 * (2 + i) ≤ a then (4, (a - 8 * (2 + i)) / 136, (a - 8 * (2 + i)) % 136)
  else if 16 ≤ a then (3, (a - 16) / 8 + 1, (a - 16) % 8)
  else if 8 ≤ a then (2, (a - 8) / 8, a % 8)
  else (1, a / 8, a % 8)
def regV (r : Int × Int × Int) : Value := .agg #[.int .u8 r.1, .int .i64 r.2.1, .int .i64 r.2.2]

theorem what_in (p i b a : Int) (w : World) (h : Ok p i b) (h0 : 0 ≤ a) (h1 : a < 8 * (2 + i + 17 * p + 4 * b)) :
    Calls Try.prog 10 #[geo p i b, .int .i64 a] w (New w (two (regV (reg3 p i a)) (.int .i64 0))) := by
  unfold reg3
  split
  · exact what_5 p i b a w h (by assumption) h1
  split
  · exact what_4 p i b a w h (by assumption) (by omega)
  split
  · exact what_3 p i b a w h (by assumption) (by omega)
  split
  · exact what_2 p i b a w h (by assumption) (by omega)
  · exact what_1 p i b a w h h0 (by omega)

def listOf (p i : Int) (m : Nat) : List (Int × Int × Int) := (List.range m).map fun (k : Nat) => reg3 p i (k : Int)
theorem listOf_len (p i : Int) (m : Nat) : (listOf p i m).length = m := by simp [listOf]
theorem listOf_row (p i : Int) (m k : Nat) (kd n : Int) (h : ∀ o : Nat, o < k → reg3 p i ((m : Int) + o) = (kd, n, (o : Int))) :
    listOf p i m ++ rowOf kd n k = listOf p i (m + k) := by
  induction k with
  | zero => simp [rowOf]
  | succ k ih =>
    rw [rowOf_succ, ← List.append_assoc, ih (fun o ho => h o (by omega)), ← Nat.add_assoc]
    simp only [listOf, List.range_succ, List.map_append, List.map_cons, List.map_nil]
    rw [← h k (by omega)]
    simp

section
variable {p i b : Int} (h : Ok p i b)
include h
theorem row_super : listOf p i 0 ++ rowOf 1 0 8 = listOf p i 8 := by
  obtain ⟨h1, h2, h3, h4, h5, h6⟩ := h
  have := listOf_row p i 0 8 1 0 (fun o ho => by
    unfold reg3
    rw [if_neg (by omega), if_neg (by omega), if_neg (by omega), if_neg (by omega)]
    refine congr (congrArg _ ?_) (congr (congrArg _ ?_) ?_) <;> omega)
  simpa using this
theorem row_maps : listOf p i 8 ++ rowOf 2 0 8 = listOf p i 16 := by
  obtain ⟨h1, h2, h3, h4, h5, h6⟩ := h
  exact listOf_row p i 8 8 2 0 (fun o ho => by
    unfold reg3
    rw [if_neg (by omega), if_neg (by omega), if_neg (by omega), if_pos (by omega)]
    refine congr (congrArg _ ?_) (congr (congrArg _ ?_) ?_) <;> omega)
theorem row_inode (k : Nat) (k1 : 1 ≤ k) (k2 : (k : Int) ≤ i) : listOf p i (8 + 8 * k) ++ rowOf 3 k 8 = listOf p i (8 + 8 * (k + 1)) := by
  obtain ⟨h1, h2, h3, h4, h5, h6⟩ := h
  exact listOf_row p i (8 + 8 * k) 8 3 k (fun o ho => by
    unfold reg3
    rw [if_neg (by omega), if_neg (by omega), if_pos (by omega)]
    refine congr (congrArg _ ?_) (congr (congrArg _ ?_) ?_) <;> omega)
theorem row_slot (I : Nat) (hI : (I : Int) = i) (k : Nat) (k2 : (k : Int) < p) : listOf p i (16 + 8 * I + 136 * k) ++ rowOf 4 k 136 = listOf p i (16 + 8 * I + 136 * (k + 1)) := by
  obtain ⟨h1, h2, h3, h4, h5, h6⟩ := h
  exact listOf_row p i (16 + 8 * I + 136 * k) 136 4 k (fun o ho => by
    unfold reg3
    rw [if_neg (by omega), if_pos (by omega)]
    refine congr (congrArg _ ?_) (congr (congrArg _ ?_) ?_) <;> omega)
theorem row_block (I : Nat) (hI : (I : Int) = i) (P : Nat) (hP : (P : Int) = p) (k : Nat) (k1 : 1 ≤ k) : listOf p i (8 * I + 136 * P + 32 * k - 16) ++ rowOf 5 k 32 = listOf p i (8 * I + 136 * P + 32 * (k + 1) - 16) := by
  obtain ⟨h1, h2, h3, h4, h5, h6⟩ := h
  have e : 8 * I + 136 * P + 32 * (k + 1) - 16 = 8 * I + 136 * P + 32 * k - 16 + 32 := by omega
  rw [e]
  exact listOf_row p i (8 * I + 136 * P + 32 * k - 16) 32 5 k (fun o ho => by
    unfold reg3
    rw [if_pos (by omega)]
    refine congr (congrArg _ ?_) (congr (congrArg _ ?_) ?_) <;> omega)
end

theorem all_kept {B : Nat} {w w' : World} {l : List (Int × Int × Int)} (h : All B w l) (hb : Below w.heap.size w w') : All B w' l := by
  obtain ⟨v, hv, hown⟩ := h
  refine ⟨v, ?_, ?_⟩
  · rw [hb.block _ (lt_of_block hv)]; exact hv
  · refine hown.kept (row := none) ⟨hb.os, hb.tape, hb.output, hb.size, fun k hk _ => hb.block k hk⟩ ?_
    cases hv : v.ownBlock <;> simp

theorem cellsOf_get : ∀ (l : List (Int × Int × Int)) (q : Nat) (r : Int × Int × Int), l[q]? = some r →
    (cellsOf l)[q * 3]? = some (.int .u8 r.1) ∧ (cellsOf l)[q * 3 + 1]? = some (.int .i64 r.2.1) ∧ (cellsOf l)[q * 3 + 2]? = some (.int .i64 r.2.2) := by
  intro l
  induction l with
  | nil => intro q r h; simp at h
  | cons a l ih =>
    intro q r h
    cases q with
    | zero => simp at h; subst h; simp [cellsOf]
    | succ q =>
      simp only [List.getElem?_cons_succ] at h
      have e : (cellsOf (a :: l)) = [.int .u8 a.1, .int .i64 a.2.1, .int .i64 a.2.2] ++ cellsOf l := by simp [cellsOf]
      have := ih q r h
      rw [e]
      rw [show (q + 1) * 3 = q * 3 + 3 from by omega]
      refine ⟨?_, ?_, ?_⟩ <;> (rw [List.getElem?_append_right (by simp)]; simp only [List.length_cons, List.length_nil])
      · exact this.1
      · exact this.2.1
      · exact this.2.2

theorem row_cells {w : World} {B gb M c : Nat} {p i : Int} (hown : w.ownsRow (B + 1) 30 3 (.slice (some ⟨gb, 0, none⟩) M c) M (cellsOf (listOf p i M))) :
    gb < w.heap.size ∧ ∀ (q : Nat) (rk rn ro : Int), q < M → reg3 p i q = (rk, rn, ro) →
      w.cell? ⟨gb, q * 3, none⟩ = some (.int .u8 rk) ∧ w.cell? ⟨gb, q * 3 + 1, none⟩ = some (.int .i64 rn) ∧ w.cell? ⟨gb, q * 3 + 2, none⟩ = some (.int .i64 ro) := by
  refine ⟨(hown.lt gb rfl).2, fun q rk rn ro hq hr => ?_⟩
  have hl : (listOf p i M)[q]? = some (rk, rn, ro) := by rw [← hr]; simp [listOf, hq]
  obtain ⟨h1, h2, h3⟩ := cellsOf_get _ _ _ hl
  have hadd : ∀ j, (⟨gb, 0, none⟩ : Addr).add j = ⟨gb, j, none⟩ := by intro j; unfold Addr.add; split <;> simp_all
  have a1 := hown.cells (g := gb) rfl _ _ h1
  have a2 := hown.cells (g := gb) rfl _ _ h2
  have a3 := hown.cells (g := gb) rfl _ _ h3
  rw [hadd] at a1 a2 a3
  exact ⟨a1, a2, a3⟩

theorem what_at (p i b a rk rn ro : Int) (w : World) (h : Ok p i b) (h0 : 0 ≤ a) (h1 : a < 8 * (2 + i + 17 * p + 4 * b)) (hr : reg3 p i a = (rk, rn, ro)) :
    Calls Try.prog 10 #[geo p i b, .int .i64 a] w (New w (two (reg rk rn ro) (.int .i64 0))) := by
  have := what_in p i b a w h h0 h1
  rw [hr] at this
  exact this
end Go.Proofs.Ythjdpcgkkmfodaa.Laid
