/- The law's own rows beside the device, in memory. -/
import Derived.Test.YthjdpcgkkmfodaaPendI
namespace Go.Proofs.Ythjdpcgkkmfodaa.Pend
open Go.RowKit Go.Proofs.Ythjdpcgkkmfodaa.Base
set_option linter.unusedVariables false
set_option linter.unusedSimpArgs false

/-- The device (kept dk, seen now, waiting dw), and the law's own rows (lk, lw) in blocks of their own; all behind W0. -/
structure St (W0 : World) (m : Nat) (L : Places) (kb kc : Nat) (wvv wv : Value) (dk now : List Int) (dw : List P3) (lk : List Int) (lw : List P3) (w : World) : Prop where
  dev : Dev w W0.heap.size L wv dk now dw
  krow : wide w W0.heap.size 81 1 (.slice (some ⟨kb, 0, none⟩) (8 * m) kc) (8 * m) (words lk)
  wrow : wide w W0.heap.size 85 3 wvv lw.length (pends lw)
  kd : ¬ foot L wv kb
  wd : ∀ k, wvv.ownBlock = some k → ¬ foot L wv k ∧ ¬ k = kb
  below : Below W0.heap.size W0 w
  n : L.n = 8 * m

set_option maxRecDepth 100000 in
theorem flush_arg {w : World} {B : Nat} {L : Places} {wv : Value} {kept now : List Int} {wait : List P3} (h : Dev w B L wv kept now wait) (m : Nat) (hn : L.n = 8 * m) (hm : m ≤ 100000) (line : Nat) (hx : m ≤ line) (hx2 : line ≤ 1000000) :
    Calls Try.prog 40 #[.pointer (some ⟨L.D, 0, none⟩), .int .i64 line] w fun e w' => e = .returned (.int .i64 2) ∧ w' = w := by
  have hl := lines_any h (by omega)
  have hq : L.n / 8 = m := by omega
  rw [hq] at hl
  have HL := Lib.hid hl
  have H := Lib.hid h; clear h hl
  go_enter Try.func40, Try.ntmps40
  go_wp2_with (first
    | (go_at_call 37; refine HL.out.mono ?_; rintro e w' ⟨rfl, hw'⟩; subst w')
    | (go_at_call 70; refine (may_arg L.D line m _ (by omega) (by omega)).mono ?_; rintro e w' ⟨rfl, hw'⟩; subst w'))
  go_ret
  exact ⟨rfl, rfl⟩
theorem belowN {B : Nat} {a w : World} (h : Below B a w) (n : Nat) : Below B a (w.drewN n) := ⟨h.os, h.tape, h.output, h.size, h.block⟩
section
variable {W0 w w' : World} {m kb kc : Nat} {L : Places} {wvv wv : Value} {dk now lk : List Int} {dw lw : List P3}
theorem St.only {S : Nat → Prop} (h : St W0 m L kb kc wvv wv dk now dw lk lw w) (ho : Only S w w') (hS : ∀ k, S k → ¬ foot L wv k ∧ ¬ k = kb ∧ ¬ wvv.ownBlock = some k ∧ W0.heap.size ≤ k) : St W0 m L kb kc wvv wv dk now dw lk lw w' :=
  ⟨h.dev.only ho (fun k hk hs => (hS k hs).1 hk), h.krow.only ho (fun k hk hs => by simp [Value.ownBlock] at hk; exact (hS k hs).2.1 hk.symm), h.wrow.only ho (fun k hk hs => (hS k hs).2.2.1 hk), h.kd, h.wd,
    h.below.trans (ho.below h.below.size (fun k hk => (hS k hk).2.2.2)), h.n⟩
theorem St.further (h : St W0 m L kb kc wvv wv dk now dw lk lw w) (hb : Below w.heap.size w w') : St W0 m L kb kc wvv wv dk now dw lk lw w' :=
  h.only (S := fun _ => False) (Only.of_below hb) (fun _ h => h.elim)
theorem St.new (h : St W0 m L kb kc wvv wv dk now dw lk lw w) (hb : Only (fun _ => False) w w') : St W0 m L kb kc wvv wv dk now dw lk lw w' :=
  h.only (S := fun _ => False) hb (fun _ h => h.elim)
theorem St.alloc (h : St W0 m L kb kc wvv wv dk now dw lk lw w) (o : Obj) : St W0 m L kb kc wvv wv dk now dw lk lw (w.alloc o) := h.new ((Only.refl _ w).alloc o)
theorem St.drew (h : St W0 m L kb kc wvv wv dk now dw lk lw w) : St W0 m L kb kc wvv wv dk now dw lk lw w.drew := h.new ((Only.refl _ w).drew)
theorem St.drewN (h : St W0 m L kb kc wvv wv dk now dw lk lw w) (n : Nat) : St W0 m L kb kc wvv wv dk now dw lk lw (w.drewN n) := h.new ((Only.refl _ w).drewN n)
theorem St.kbd (h : St W0 m L kb kc wvv wv dk now dw lk lw w) : W0.heap.size ≤ kb ∧ kb < w.heap.size := h.krow.lt kb rfl
theorem St.wb (h : St W0 m L kb kc wvv wv dk now dw lk lw w) : ∀ k, wvv.ownBlock = some k → W0.heap.size ≤ k ∧ k < w.heap.size := h.wrow.lt
theorem St.lkLen (h : St W0 m L kb kc wvv wv dk now dw lk lw w) : lk.length = 8 * m := by have := h.krow.1; rw [words_len] at this; omega
/-- The law keeps a word. -/
theorem St.setK (h : St W0 m L kb kc wvv wv dk now dw lk lw w) (a : Nat) (x : Int) (ha : a < 8 * m) : St W0 m L kb kc wvv wv dk now dw (lk.set a x) lw (w.setCell ⟨kb, a, none⟩ (.int .u64 x)) := by
  have hkb := h.kbd
  have ho : Only (fun k => k = kb) w (w.setCell ⟨kb, a, none⟩ (.int .u64 x)) := (Only.refl _ w).setCell _ _ (.inl rfl)
  refine ⟨h.dev.only ho (fun k hk hs => by subst hs; exact h.kd hk), ?_, h.wrow.only ho (fun k hk hs => (h.wd k hk).2 hs), h.kd, h.wd, h.below.trans (ho.below h.below.size (fun k hs => by subst hs; exact hkb.1)), h.n⟩
  rw [← words_set]; exact h.krow.set (by omega)
/-- The law's list of what waits is another slice, in a block that is new. -/
theorem St.newW {wvv' : Value} {lw' : List P3} (h : St W0 m L kb kc wvv wv dk now dw lk lw w) (ho : Only (fun _ => False) w w') (hw : wide w' W0.heap.size 85 3 wvv' lw'.length (pends lw')) (hn : ∀ k, wvv'.ownBlock = some k → w.heap.size ≤ k) :
    St W0 m L kb kc wvv' wv dk now dw lk lw' w' := by
  have h1 := h.new ho
  refine ⟨h1.dev, h1.krow, hw, h.kd, fun k hk => ?_, h1.below, h.n⟩
  have hk2 := hn k hk
  refine ⟨fun hf => ?_, fun e => ?_⟩
  · have := (h.dev.lt k hf).2; omega
  · have := h.kbd; omega
theorem St.nilW (h : St W0 m L kb kc wvv wv dk now dw lk lw w) : St W0 m L kb kc (.slice none 0 0) wv dk now dw lk [] w :=
  h.newW (Only.refl _ w) (wide_nil _ _ _ _) (fun k hk => by simp [Value.ownBlock] at hk)
/-- The law marks one that waits. -/
theorem St.setW {G q c : Nat} (h : St W0 m L kb kc (.slice (some ⟨G, 0, none⟩) q c) wv dk now dw lk lw w) {k : Nat} {p : P3} (hk : lw[k]? = some p) (b : Bool) :
    St W0 m L kb kc (.slice (some ⟨G, 0, none⟩) q c) wv dk now dw lk (lw.set k (p.1, p.2.1, b)) (w.setCell ⟨G, k * 3 + 2, none⟩ (.bool b)) := by
  obtain ⟨n1, n2⟩ := h.wd G rfl
  have hkl := (List.getElem?_eq_some_iff.1 hk).1
  have hGb := h.wb G rfl
  have ho : Only (fun k => k = G) w (w.setCell ⟨G, k * 3 + 2, none⟩ (.bool b)) := (Only.refl _ w).setCell _ _ (.inl rfl)
  refine ⟨h.dev.only ho (fun k hk hs => by subst hs; exact n1 hk), h.krow.only ho (fun k hk hs => by simp [Value.ownBlock] at hk; exact n2 (by rw [← hs, hk])), ?_, h.kd, h.wd, h.below.trans (ho.below h.below.size (fun k hs => by subst hs; exact hGb.1)), h.n⟩
  have hq : q = lw.length := by obtain ⟨_, _, e⟩ := h.wrow.shape; simp at e; exact e.2.1
  rw [← pends_flag hk, List.length_set]
  have hw := h.wrow
  rw [hq] at hw ⊢
  exact hw.set (by omega)
/-- The law's list of what waits is another slice of its own. -/
theorem St.swap {wvv' : Value} {lw' : List P3} (h : St W0 m L kb kc wvv wv dk now dw lk lw w) (hw : wide w W0.heap.size 85 3 wvv' lw'.length (pends lw')) (hn : ∀ k, wvv'.ownBlock = some k → ¬ foot L wv k ∧ ¬ k = kb) :
    St W0 m L kb kc wvv' wv dk now dw lk lw' w := ⟨h.dev, h.krow, hw, h.kd, hn, h.below, h.n⟩
/-- The device has been called. -/
theorem St.called {r : Value} {e : Ending} {dk' now' : List Int} {dw' : List P3} (h : St W0 m L kb kc wvv wv dk now dw lk lw w) (hp : DevPost W0.heap.size L wv dk' now' dw' r w e w') :
    e = .returned r ∧ ∃ wv', St W0 m L kb kc wvv wv' dk' now' dw' lk lw w' := by
  obtain ⟨he, wv', hd, ho, hn⟩ := hp
  have hkb := h.kbd
  have hf : ∀ k, foot L wv' k → foot L wv k ∨ w.heap.size ≤ k := by
    rintro k (hk | hk | hk | hk)
    · exact .inl (.inl hk)
    · exact .inl (.inr (.inl hk))
    · exact .inl (.inr (.inr (.inl hk)))
    · rcases hn k hk with h | h
      · exact .inl (.inr (.inr (.inr h)))
      · exact .inr h
  refine ⟨he, wv', hd, h.krow.only ho (fun k hk hs => by simp [Value.ownBlock] at hk; subst hk; exact h.kd hs), h.wrow.only ho (fun k hk hs => (h.wd k hk).1 hs), ?_, ?_, h.below.trans (ho.below h.below.size (fun k hk => (h.dev.lt k hk).1)), h.n⟩
  · intro hk
    rcases hf _ hk with h1 | h1
    · exact h.kd h1
    · omega
  · intro k hk
    refine ⟨fun hk2 => ?_, (h.wd k hk).2⟩
    rcases hf _ hk2 with h1 | h1
    · exact (h.wd k hk).1 h1
    · have := (h.wb k hk).2; omega
end
end Go.Proofs.Ythjdpcgkkmfodaa.Pend
