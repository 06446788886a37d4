/- TopLaid, first part: the closure that writes the regions of so many lines behind those that are listed. -/
import Derived.Test.YthjdpcgkkmfodaaGeom3
namespace Go.Proofs.Ythjdpcgkkmfodaa.Laid
open Go.RowKit Go.Proofs.Ythjdpcgkkmfodaa.Base Go.Proofs.Ythjdpcgkkmfodaa.Geom

theorem info30 : (Try.prog.info? 30).map (fun i => (i.zero, i.size, i.bytes)) = some (some (.agg #[.int .u8 0, .int .i64 0, .int .i64 0]), 3, 24) := by kernel_rfl

/-- The cells of a list of regions. -/
def cellsOf (l : List (Int × Int × Int)) : List Value := l.flatMap fun r => [.int .u8 r.1, .int .i64 r.2.1, .int .i64 r.2.2]
theorem cellsOf_snoc (l : List (Int × Int × Int)) (k n o : Int) : cellsOf (l ++ [(k, n, o)]) = cellsOf l ++ [.int .u8 k, .int .i64 n, .int .i64 o] := by
  simp [cellsOf]
theorem cellsOf_len (l : List (Int × Int × Int)) : (cellsOf l).length = l.length * 3 := by
  induction l with
  | nil => rfl
  | cons a l ih => simp only [cellsOf, List.flatMap_cons, List.length_append, List.length_cons, List.length_nil] at ih ⊢; omega

/-- The captured variable holds a slice that owns the list. -/
def All (B : Nat) (w : World) (l : List (Int × Int × Int)) : Prop :=
  ∃ v, w.heap[B]? = some (.cells #[v] 34 (0, 0)) ∧ w.ownsRow (B + 1) 30 3 v l.length (cellsOf l)

def rowOf (kd n : Int) (k : Nat) : List (Int × Int × Int) := (List.range k).map fun (o : Nat) => (kd, n, (o : Int))
theorem rowOf_succ (kd n : Int) (k : Nat) : rowOf kd n (k + 1) = rowOf kd n k ++ [(kd, n, (k : Int))] := by simp [rowOf, List.range_succ]
theorem rowOf_len (kd n : Int) (k : Nat) : (rowOf kd n k).length = k := by simp [rowOf]

def Post (B m : Nat) (l : List (Int × Int × Int)) (w : World) (e : Ending) (w' : World) : Prop := e = .returned (.int .i64 m) ∧ All B w' l ∧ Below B w w'

set_option maxRecDepth 100000 in
set_option maxHeartbeats 800000 in
theorem region_any (kd n : Int) (L B : Nat) (l : List (Int × Int × Int)) (w : World) (hA : All B w l) (hL : L ≤ 100) (hl : l.length ≤ 20000) :
    Calls Try.prog 12 #[.int .u8 kd, .int .i64 n, .int .i64 L, .pointer (some ⟨B, 0, none⟩)] w (Post B l.length (l ++ rowOf kd n (8 * L)) w) := by
  obtain ⟨i0, hi, hz0, hz1, hz2⟩ := info_parts info30
  obtain ⟨v, hv, hown⟩ := id hA
  have hc := cell_of_one hv
  obtain ⟨g, c, rfl⟩ := own_shape hown
  clear hown
  go_enter Try.func12, Try.ntmps12
  go_wp2
  go_loopw [14] (fun i wr => ∃ k : Nat, k ≤ 8 * L ∧ i = .int .i64 k ∧ All B wr (l ++ rowOf kd n k) ∧ Below B w wr) (fun i _ => 8 * L - (intOf i).toNat)
  case atStart => exact ⟨0, Nat.zero_le _, rfl, by simpa [rowOf] using hA, Below.refl _ _⟩
  case round =>
    obtain ⟨k, hk, rfl, hAk, hB⟩ := hrel
    clear hv hc hA
    obtain ⟨v, hv, hown⟩ := hAk
    have hcv := cell_of_one hv
    have hBs := lt_of_block hv
    by_cases hlt : k < 8 * L
    · have hlk : (l ++ rowOf kd n k).length = l.length + k := by simp [rowOf_len]
      generalize hlk2 : (l ++ rowOf kd n k).length = q at hown
      rw [hlk2] at hlk
      have H2 := Lib.hid hlk2; clear hlk2
      have hq : q ≤ 21000 := by omega
      have H := Lib.hid hlk; clear hlk
      go_wp2_with (at_builtin; refine wpList_append_own _ rfl _ _ 34 rfl (B + 1) 30 i0 (.agg #[.int .u8 0, .int .i64 0, .int .i64 0]) 3 24 Try.underlying34 hi hz0 hz1 hz2 rfl (by decide) _ _ _ rfl (hown.alloc _) ⟨wr.heap.size, 0, none⟩ 1 1 [.int .u8 kd, .int .i64 n, .int .i64 k] rfl rfl ?c1 ?c2 ?c3 ?c4 ?c5 ?_)
      case c1 => exact news3 _ _ _ _ _
      case c2 => intro u hu; simp at hu; rcases hu with rfl | rfl | rfl <;> rfl
      case c3 => unfold maxLen; omega
      case c4 => omega
      case c5 => simp; omega
      intro v' w1 hown' hgrow _
      obtain ⟨g', c', rfl⟩ := own_shape hown'
      obtain ⟨e1, e2, e3, e4, e5, e6⟩ := own_step hv hown hown' hgrow
      have E3 := Lib.hid e3
      clear hv hgrow hown' hown e3 hcv
      go_wp2
      go_roundw
      case rel =>
        refine ⟨k + 1, by omega, by go_num, ⟨_, E3.out, ?_⟩, hB.trans e5⟩
        have : (l ++ rowOf kd n (k + 1)) = (l ++ rowOf kd n k) ++ [(kd, n, (k : Int))] := by rw [rowOf_succ, List.append_assoc]
        rw [this, cellsOf_snoc]
        have hq2 : ((l ++ rowOf kd n k) ++ [(kd, n, (k : Int))]).length = q + 1 := by rw [List.length_append, H2.out]; rfl
        rw [hq2]; exact e4
      case measure => simp [intOf]; omega
    · have hke : k = 8 * L := by omega
      subst hke
      go_wp2
      go_ret
      exact ⟨rfl, ⟨v, hv, hown⟩, hB⟩
end Go.Proofs.Ythjdpcgkkmfodaa.Laid
