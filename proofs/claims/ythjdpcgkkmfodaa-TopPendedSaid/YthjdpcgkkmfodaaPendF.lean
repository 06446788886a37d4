/- media's settle: an append of one thing in place; the closures of Fence and Crash. -/
import Derived.Test.YthjdpcgkkmfodaaPendE
namespace Go.Proofs.Ythjdpcgkkmfodaa.Pend
open Go.RowKit Go.Proofs.Ythjdpcgkkmfodaa.Base
set_option linter.unusedVariables false
set_option linter.unusedSimpArgs false

theorem pends_set {l : List P3} {m : Nat} (p : P3) (h : m < l.length) : (pends l).take (m * 3) ++ pend1 p ++ (pends l).drop (m * 3 + 3) = pends (l.set m p) := by
  induction l generalizing m with
  | nil => simp at h
  | cons q l ih =>
    cases m with
    | zero => simp [pends, pend1]
    | succ m =>
      have h' : m < l.length := by simpa using h
      have e : (m + 1) * 3 = m * 3 + 3 := by omega
      have := ih h'
      simp only [List.append_assoc] at this
      rw [e]
      simp [pends, pend1, ← this]

section
variable {P : Program} (w : World)
/-- An append of one thing, in place, to the head of a row that the slice (G, n, c) owns. -/
theorem wpList_append_inplace {ops : Array Oper} {rest : List Oper} {o : Oper} {a : Act} {Q : Exit → Act → World → Prop} (hgd : o.guard = none) (s x : Operand) (t : TypeId)
    (ho : o.op = .call { callee := .builtin .append, args := #[s, x], argTypes := #[t, t] })
    (base : Nat) (e : TypeId) (i : TypeInfo) (ht : P.underlying t = some (.slice e)) (hi : P.info? e = some i) (hsize : i.size = 3)
    (G n c m : Nat) (X : List P3) (p : P3) (hX : X.length = n) (hm : m < n) (hs : a.eval s = .slice (some ⟨G, 0, none⟩) m n) (hown : wide w base e 3 (.slice (some ⟨G, 0, none⟩) n c) n (pends X))
    (ad : Addr) (c2 : Nat) (hx : a.eval x = .slice (some ad) 1 c2) (hnews : ∀ j u, (pend1 p)[j]? = some u → w.cell? (ad.add j) = some u)
    (h : ∀ w', wide w' base e 3 (.slice (some ⟨G, 0, none⟩) n c) n (pends (X.set m p)) → w.grownBy w' (some G) → wpList P ops Q rest (a.put o.dst (.slice (some ⟨G, 0, none⟩) (m + 1) n)) w') : wpList P ops Q (o :: rest) a w := by
  refine wpList_plain hgd fun _ hK => ?_
  rcases hown.2 with ⟨hv, _⟩ | ⟨g, cap, cur, hv, hbg, hg, hnc, hcm, hcs, htake⟩
  · simp at hv
  simp at hv
  obtain ⟨rfl, rfl⟩ := hv
  have hcn : n * 3 ≤ cur.size := Nat.le_trans (Nat.mul_le_mul_right _ hnc) hcs
  have hr := run_append_room (P := P) w t o.type e i ht hi G m n cur hg ad 1 c2 (pend1 p) (by rw [hsize]; rfl) hnews (by intro u hu; simp [pend1] at hu; rcases hu with rfl | rfl | rfl <;> rfl) (by omega) (by rw [hsize]; show m * 3 + 3 ≤ cur.size; omega)
  rw [hsize] at hr
  unfold Oper.wp execOp
  simp only [ho, resolve, invoke, builtin, Sem.run_bind, Sem.run_pure, Result.andThen_ok, List.map_toArray, List.map_cons, List.map_nil, hs, hx, hr]
  refine hK _ _ (h _ ⟨by rw [pends_len, List.length_set]; omega, .inr ⟨G, c, _, rfl, hbg, setRow_heap w G cur _ e _ hg, hnc, hcm, ?_, ?_⟩⟩ ⟨rfl, rfl, rfl, by simp, fun k _ hk => setRow_other w G k _ (fun e => hk (by simp [e]))⟩)
  · simp [pend1]; omega
  · rw [← pends_set p (by omega), ← htake]
    have hl : (pend1 p).length = 3 := rfl
    simp only [hl]
    have hl1 : (cur.toList.take (m * 3)).length = m * 3 := by simp; omega
    have hl2 : (cur.toList.take (m * 3) ++ pend1 p).length = m * 3 + 3 := by rw [List.length_append, hl1, hl]
    rw [List.take_append, hl2, List.take_of_length_le (by rw [hl2]; omega), List.take_take, Nat.min_eq_left (by omega), List.drop_take]
end
end Go.Proofs.Ythjdpcgkkmfodaa.Pend
