/- The contracts of media's Fence and Crash; slices.Equal of two slices that read alike. -/
import Derived.Test.YthjdpcgkkmfodaaPendG
import Derived.Deep.RegionLaw
import Derived.Laws.CopyOwn
import Derived.Deep.QuietTactic
import Derived.BigQuiet
namespace Go.Proofs.Ythjdpcgkkmfodaa.Pend
open Go.RowKit Go.Proofs.Ythjdpcgkkmfodaa.Base
set_option linter.unusedVariables false
set_option linter.unusedSimpArgs false

/-- A copy of one row over another one of the same length. -/
theorem step_copy_wide {P : Program} {ops : Array Oper} {o : Oper} {a : Act} {w : World} {K : Act → World → Prop} {Q : Exit → Act → World → Prop} {E : Prop} (hgd : o.guard = none) (d s : Operand) (dT sT : TypeId)
    (ho : o.op = .call { callee := .builtin .copy, args := #[d, s], argTypes := #[dT, sT] }) (elem : TypeId) (hu : P.underlying dT = some (.slice elem)) (hsz : (P.info? elem).map (·.size) = some 1)
    (B B' N M n cn cm : Nat) (xs ys : List Value) (hd : a.eval d = .slice (some ⟨N, 0, none⟩) n cn) (hs : a.eval s = .slice (some ⟨M, 0, none⟩) n cm)
    (hwn : wide w B elem 1 (.slice (some ⟨N, 0, none⟩) n cn) n xs) (hwm : wide w B' elem 1 (.slice (some ⟨M, 0, none⟩) n cm) n ys) (h1 : ∀ u ∈ ys, u.oneCell' = true)
    (h : ∀ w', wide w' B elem 1 (.slice (some ⟨N, 0, none⟩) n cn) n ys → w.grownBy w' (some N) → K (a.put o.dst (goInt n)) w') :
    if Region.wanted o (yielded ops a.tmps) = true then Oper.wp P o a w K Q else E := by
  have hw : Region.wanted o (yielded ops a.tmps) = true := by simp [Region.wanted, hgd]
  rw [if_pos hw]
  have hyl : ys.length = n := by have := hwm.1; omega
  rcases hwn.2 with ⟨hv, _⟩ | ⟨g, cap, cur, hv, hbg, hg, hnc, hcm, hcs, htake⟩
  · simp at hv
  simp at hv
  obtain ⟨rfl, rfl⟩ := hv
  have hadd : ∀ j : Nat, (⟨M, 0, none⟩ : Addr).add j = ⟨M, j, none⟩ := by intro j; unfold Addr.add; split <;> simp_all
  have hrun := run_copy_row (P := P) w dT sT o.type elem N 0 n cn ⟨M, 0, none⟩ n cm cur elem ys hu hsz hg (by simp [hyl]) (fun j u hj => by rw [hadd]; exact hwm.cell hj) (by omega) h1
  unfold Oper.wp
  simp [execOp, ho, resolve, invoke, builtin, hd, hs, hrun, Result.andThen]
  rw [hyl]
  refine h _ ⟨hwm.1, .inr ⟨N, cn, _, rfl, hbg, setRow_heap w N cur _ elem _ hg, hnc, hcm, ?_, ?_⟩⟩ ⟨rfl, rfl, rfl, by simp, fun k _ hk => setRow_other w N k _ (fun e => hk (by simp [e]))⟩
  · simp; omega
  · simp [hyl]

set_option maxRecDepth 100000 in
set_option maxHeartbeats 1600000 in
theorem equal_words {B1 B2 n : Nat} {l : List Int} {v1 v2 : Value} {w : World} (hn : n ≤ 100000) (h1 : wide w B1 81 1 v1 n (words l)) (h2 : wide w B2 81 1 v2 n (words l)) :
    Calls Try.prog 46 #[v1, v2] w fun e w' => e = .returned (.bool true) ∧ ∃ n, w' = w.drewN n := by
  have hln : l.length = n := by have := h1.1; rw [words_len] at this; omega
  obtain ⟨g1, c1, rfl⟩ := h1.shape
  obtain ⟨g2, c2, rfl⟩ := h2.shape
  have HL := Lib.hid hln; have HA := Lib.hid h1; have HB := Lib.hid h2; clear h1 h2 hln
  go_enter Try.func46, Try.ntmps46
  go_wp2
  go_loopw [13] (fun i wr => ∃ k q : Nat, k ≤ n ∧ i = .int .i64 k ∧ wr = w.drewN q) (fun i _ => n - (intOf i).toNat)
  case atStart => exact ⟨0, 0, by omega, rfl, rfl⟩
  case round =>
    obtain ⟨k, q, hk, rfl, rfl⟩ := hrel
    by_cases hlt : k < n
    · obtain ⟨x, hx⟩ : ∃ x, l[k]? = some x := ⟨l[k]'(by rw [HL.out]; exact hlt), by simp⟩
      obtain ⟨b1, cc1, hv1, -⟩ := HA.out.some (by omega)
      obtain ⟨b2, cc2, hv2, -⟩ := HB.out.some (by omega)
      simp only [Value.slice.injEq] at hv1 hv2
      obtain ⟨rfl, -, rfl⟩ := hv1
      obtain ⟨rfl, -, rfl⟩ := hv2
      have e1 := HA.out.cell (words_get hx)
      have e2 := HB.out.cell (words_get hx)
      clear hx
      go_wp2_with fail
      go_quiet (fail)
      go_wp2
      exact ⟨⟨k + 1, _, by omega, by go_num, rfl⟩, by simp [intOf]; omega⟩
    · have hke : k = n := by omega
      subst hke
      go_wp2
      go_ret
      exact ⟨rfl, _, rfl⟩

set_option maxRecDepth 100000 in
set_option maxHeartbeats 1600000 in
theorem equal_pends {B1 B2 n : Nat} {l : List P3} {v1 v2 : Value} {w : World} (hn : n ≤ 100000) (h1 : wide w B1 85 3 v1 n (pends l)) (h2 : wide w B2 85 3 v2 n (pends l)) :
    Calls Try.prog 49 #[v1, v2] w fun e w' => e = .returned (.bool true) ∧ ∃ n, w' = w.drewN n := by
  have hln : l.length = n := by have := h1.1; rw [pends_len] at this; omega
  obtain ⟨g1, c1, rfl⟩ := h1.shape
  obtain ⟨g2, c2, rfl⟩ := h2.shape
  have HL := Lib.hid hln; have HA := Lib.hid h1; have HB := Lib.hid h2; clear h1 h2 hln
  go_enter Try.func49, Try.ntmps49
  go_wp2
  go_loopw [13] (fun i wr => ∃ k q : Nat, k ≤ n ∧ i = .int .i64 k ∧ wr = w.drewN q) (fun i _ => n - (intOf i).toNat)
  case atStart => exact ⟨0, 0, by omega, rfl, rfl⟩
  case round =>
    obtain ⟨k, q, hk, rfl, rfl⟩ := hrel
    by_cases hlt : k < n
    · obtain ⟨⟨a, x, f⟩, hx⟩ : ∃ x, l[k]? = some x := ⟨l[k]'(by rw [HL.out]; exact hlt), by simp⟩
      obtain ⟨b1, cc1, hv1, -⟩ := HA.out.some (by omega)
      obtain ⟨b2, cc2, hv2, -⟩ := HB.out.some (by omega)
      simp only [Value.slice.injEq] at hv1 hv2
      obtain ⟨rfl, -, rfl⟩ := hv1
      obtain ⟨rfl, -, rfl⟩ := hv2
      obtain ⟨hg0, hg1, hg2⟩ := pends_get hx
      dsimp only at hg0 hg1 hg2
      have e1 := HA.out.cell hg0
      have e2 := HB.out.cell hg0
      have e3 := HA.out.cell hg1
      have e4 := HB.out.cell hg1
      have e5 := HA.out.cell hg2
      have e6 := HB.out.cell hg2
      clear hx hg0 hg1 hg2
      go_wp2_with fail
      go_quiet (fail)
      go_wp2
      exact ⟨⟨k + 1, _, by omega, by go_num, rfl⟩, by simp [intOf]; omega⟩
    · have hke : k = n := by omega
      subst hke
      go_wp2
      go_ret
      exact ⟨rfl, _, rfl⟩

section
variable {w : World} {B : Nat} {L : Places} {wv : Value} {kept now : List Int} {wait : List P3}
theorem Dev.nowRow {w' : World} {now' : List Int} (h : Dev w B L wv kept now wait) (hg : w.grownBy w' (some L.N)) (hw : wide w' B 81 1 (.slice (some ⟨L.N, 0, none⟩) L.n L.cn) L.n (words now')) : Dev w' B L wv kept now' wait := by
  have hk := h.kb
  refine ⟨?_, ?_, hw, ?_, h.bd, h.dk, h.dn, h.kn, h.wd⟩
  · rw [hg.block L.D hk.1 (by simp; exact h.dn)]; exact h.block
  · exact h.kept.kept fun k hv => by simp [Value.ownBlock] at hv; subst hv; exact hg.block _ hk.2.1 (by simp; exact h.kn)
  · exact h.wait.kept fun k hv => hg.block _ (h.wait.lt k hv).2 (by simp; exact (h.wd k hv).2.2)
def isFlagged : Nat → P3 → Bool := fun _ p => p.2.2
def isKept (keep : List Bool) : Nat → P3 → Bool := fun i _ => keeps keep i
set_option maxRecDepth 100000 in
theorem fence_any (h : Dev w B L wv kept now wait) (hn : L.n ≤ 100000) (hw : wait.length ≤ 1000000) (hat : ∀ p ∈ wait, p.1 < L.n) :
    Calls Try.prog 41 #[.pointer (some ⟨L.D, 0, none⟩)] w (DevPost B L wv (keepTo isFlagged wait kept wait.length) now (leftTo isFlagged wait wait.length) (.int .i64 0) w) := by
  have HS := Lib.hid (settle72 h (by omega) hw hat); clear h hat
  go_enter Try.func41, Try.ntmps41
  go_wp2_with (go_at_call 71; refine HS.out.mono ?_; rintro e w1 ⟨rfl, wv', hdev, ho, hk⟩)
  have HD := Lib.hid hdev; have HO := Lib.hid ho; have HK := Lib.hid hk; clear hdev ho hk
  go_wp2
  go_ret
  exact ⟨rfl, wv', HD.out, HO.out, fun k hk => .inl (HK.out k hk)⟩

set_option maxRecDepth 100000 in
set_option maxHeartbeats 1600000 in
theorem crash_any (h : Dev w B L wv kept now wait) (hn : L.n ≤ 100000) (hw : wait.length ≤ 1000000) (hat : ∀ p ∈ wait, p.1 < L.n)
    (keep : List Bool) (ao : Option Addr) (c : Nat) (hkl : keep.length ≤ 1000000) (hk0 : ao = none → keep = []) (hk : ∀ ad, ao = some ad → ∀ j y, keep[j]? = some y → w.cell? (ad.add j) = some (.bool y) ∧ ¬ foot L wv ad.block) :
    Calls Try.prog 42 #[.pointer (some ⟨L.D, 0, none⟩), .slice ao keep.length c] w (DevPost B L wv (keepTo (isKept keep) wait kept wait.length) (keepTo (isKept keep) wait kept wait.length) [] (.int .i64 0) w) := by
  have hfl := h.lt
  have h1 : Dev (w.alloc (.cells #[.slice ao keep.length c] 61)) B L wv kept now wait := h.only (S := fun _ => False) ((Only.refl _ w).alloc _) (fun _ _ h => h)
  have hka : KeepAt (foot L wv) (w.alloc (.cells #[.slice ao keep.length c] 61)) w.heap.size keep := by
    refine ⟨ao, c, by simp, hk0, fun hf => by have := (hfl _ hf).2; omega, fun ad e j y hj => ?_⟩
    obtain ⟨h1, h2⟩ := hk ad e j y hj
    have hlt := World.block_lt_of_cell? w _ h1
    exact ⟨by rw [World.cell?_of_block (w := w) (Below.heap_alloc _ _ _ hlt)]; exact h1, h2⟩
  have HS := Lib.hid (settle73 h1 (by omega) hw hat w.heap.size keep hkl hka); clear h h1 hat hka hk hk0 hfl
  go_enter Try.func42, Try.ntmps42
  go_wp2_with (go_at_call 71; refine HS.out.mono ?_; rintro e w1 ⟨rfl, wv', hdev, ho, hk⟩; have c2 := hdev.c2; have f2 := hdev.f2; have HD0 := Lib.hid hdev; have HO0 := Lib.hid ho; clear hdev ho hk)
  have hd2 := HD0.out.waits (wv' := .slice none 0 0) (wait' := []) (wide_nil _ _ _ _) (fun k hk => by simp [Value.ownBlock] at hk)
  have hon2 : Only (foot L wv) w (w1.setCell ⟨L.D, 2, none⟩ (.slice none 0 0)) := (((Only.refl _ w).alloc _).trans HO0.out).setCell _ _ (.inl (.inl rfl))
  have HD := Lib.hid hd2; have HO := Lib.hid hon2; clear hd2 hon2
  obtain ⟨w2, hw2⟩ : ∃ w2, w1.setCell ⟨L.D, 2, none⟩ (.slice none 0 0) = w2 := ⟨_, rfl⟩
  rw [hw2] at HD HO ⊢
  clear hw2 c2 f2
  have hd3 := HD.out.drew
  have c0 := hd3.c0
  have c1 := hd3.c1
  have HD3 := Lib.hid hd3; clear hd3
  go_region_law (refine step_copy_wide rfl _ _ 79 79 rfl 81 Try.underlying79 (by kernel_rfl) B B L.N L.K L.n L.cn L.ck _ _ rfl rfl HD3.out.now HD3.out.kept (words_one _) ?_; intro w3 hw3 hgrow)
  all_goals
    have hd4 := HD3.out.nowRow hgrow hw3
    have ho4 : Only (foot L wv) w w3 := HO.out.drew.grown hgrow (fun k hk => by simp at hk; subst hk; exact .inl (.inr (.inr (.inl rfl))))
    have HD4 := Lib.hid hd4; have HO4 := Lib.hid ho4; clear hd4 ho4 hw3 hgrow
    go_wp2
    go_ret
    exact ⟨rfl, _, HD4.out, HO4.out, fun k hk => by simp [Value.ownBlock] at hk⟩
end
end Go.Proofs.Ythjdpcgkkmfodaa.Pend
