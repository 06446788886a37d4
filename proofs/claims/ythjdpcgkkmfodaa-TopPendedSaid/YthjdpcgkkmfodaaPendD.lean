/- The contracts of media's Load, Store, Words, Kept, Pending, Of and New. -/
import Derived.Test.YthjdpcgkkmfodaaPendC
namespace Go.Proofs.Ythjdpcgkkmfodaa.Pend
open Go.RowKit Go.Proofs.Ythjdpcgkkmfodaa.Base
set_option linter.unusedVariables false
set_option linter.unusedSimpArgs false

section
variable {w : World} {B : Nat} {L : Places} {wv : Value} {kept now : List Int} {wait : List P3}
set_option maxRecDepth 100000 in
theorem load_ok (h : Dev w B L wv kept now wait) (m : Nat) (hn : L.n = 8 * m) (hm : m ≤ 100000) (at_ : Nat) (x : Int) (hx : now[at_]? = some x) :
    Calls Try.prog 45 #[.pointer (some ⟨L.D, 0, none⟩), .int .i64 at_] w fun e w' => e = .returned (.tuple #[.int .u64 x, .int .i64 0]) ∧ w' = w := by
  have hlt : at_ < L.n := by rw [← h.nowLen]; exact (List.getElem?_eq_some_iff.1 hx).1
  have hl := lines_any h (by omega)
  have hq : L.n / 8 = m := by omega
  rw [hq] at hl
  have c1 := h.c1
  have e1 := h.now.cell (words_get hx)
  have HL := Lib.hid hl
  have H := Lib.hid h; clear h hl hx
  go_enter Try.func45, Try.ntmps45
  go_wp2_with (first
    | (go_at_call 37; refine HL.out.mono ?_; rintro e w' ⟨rfl, hw'⟩; subst w')
    | (go_at_call 70; refine (may_ok L.D at_ (8 * m) _ (by omega) (by omega)).mono ?_; rintro e w' ⟨rfl, hw'⟩; subst w'))
  go_ret2
  exact ⟨rfl, rfl⟩
set_option maxRecDepth 100000 in
theorem load_arg (h : Dev w B L wv kept now wait) (m : Nat) (hn : L.n = 8 * m) (hm : m ≤ 100000) (at_ : Nat) (hx : L.n ≤ at_) (hx2 : at_ ≤ 1000000) :
    Calls Try.prog 45 #[.pointer (some ⟨L.D, 0, none⟩), .int .i64 at_] w fun e w' => e = .returned (.tuple #[.int .u64 0, .int .i64 2]) ∧ w' = w := by
  have hl := lines_any h (by omega)
  have hq : L.n / 8 = m := by omega
  rw [hq] at hl
  have HL := Lib.hid hl
  have H := Lib.hid h; clear h hl
  go_enter Try.func45, Try.ntmps45
  go_wp2_with (first
    | (go_at_call 37; refine HL.out.mono ?_; rintro e w' ⟨rfl, hw'⟩; subst w')
    | (go_at_call 70; refine (may_arg L.D at_ (8 * m) _ (by omega) (by omega)).mono ?_; rintro e w' ⟨rfl, hw'⟩; subst w'))
  go_ret2
  exact ⟨rfl, rfl⟩
set_option maxRecDepth 100000 in
theorem store_arg (h : Dev w B L wv kept now wait) (m : Nat) (hn : L.n = 8 * m) (hm : m ≤ 100000) (at_ : Nat) (hx : L.n ≤ at_) (hx2 : at_ ≤ 1000000) (x : Int) :
    Calls Try.prog 39 #[.pointer (some ⟨L.D, 0, none⟩), .int .i64 at_, .int .u64 x] w fun e w' => e = .returned (.int .i64 2) ∧ w' = w := by
  have hl := lines_any h (by omega)
  have hq : L.n / 8 = m := by omega
  rw [hq] at hl
  have HL := Lib.hid hl
  have H := Lib.hid h; clear h hl
  go_enter Try.func39, Try.ntmps39
  go_wp2_with (first
    | (go_at_call 37; refine HL.out.mono ?_; rintro e w' ⟨rfl, hw'⟩; subst w')
    | (go_at_call 70; refine (may_arg L.D at_ (8 * m) _ (by omega) (by omega)).mono ?_; rintro e w' ⟨rfl, hw'⟩; subst w'))
  go_ret
  exact ⟨rfl, rfl⟩

theorem Dev.weaken {B' : Nat} (h : Dev w B L wv kept now wait) (hb : B' ≤ B) : Dev w B' L wv kept now wait :=
  ⟨h.block, h.kept.weaken hb, h.now.weaken hb, h.wait.weaken hb, Nat.le_trans hb h.bd, h.dk, h.dn, h.kn, h.wd⟩
theorem Dev.stored (h : Dev w B L wv kept now wait) (at_ : Nat) (x : Int) (hx : at_ < L.n) : Dev (w.setCell ⟨L.N, at_, none⟩ (.int .u64 x)) B L wv kept (now.set at_ x) wait := by
  refine ⟨?_, ?_, ?_, ?_, h.bd, h.dk, h.dn, h.kn, h.wd⟩
  · rw [Below.heap_setCell _ _ _ _ h.dn]; exact h.block
  · exact h.kept.far _ _ (by simp [Value.ownBlock]; exact h.kn)
  · rw [← words_set]; exact h.now.set (by omega)
  · exact h.wait.far _ _ (fun he => (h.wd _ he).2.2 rfl)
/-- A store into the device's first field but two: what waits is another slice. -/
theorem Dev.waits {wv' : Value} {wait' : List P3} (h : Dev w B L wv kept now wait) (hw : wide w B 85 3 wv' wait'.length (pends wait')) (hd : ∀ k, wv'.ownBlock = some k → ¬ k = L.D ∧ ¬ k = L.K ∧ ¬ k = L.N) :
    Dev (w.setCell ⟨L.D, 2, none⟩ wv') B L wv' kept now wait' := by
  refine ⟨?_, ?_, ?_, ?_, h.bd, h.dk, h.dn, h.kn, hd⟩
  · rw [Lib.heap_setCell_same h.block]; rfl
  · exact h.kept.far _ _ (by simp [Value.ownBlock]; exact fun e => h.dk e.symm)
  · exact h.now.far _ _ (by simp [Value.ownBlock]; exact fun e => h.dn e.symm)
  · exact hw.far _ _ (fun he => (hd _ he).1 rfl)

set_option maxRecDepth 100000 in
set_option maxHeartbeats 1600000 in
theorem store_ok (h : Dev w B L wv kept now wait) (m : Nat) (hn : L.n = 8 * m) (hm : m ≤ 100000) (at_ : Nat) (hx : at_ < L.n) (x : Int) (hw : wait.length ≤ 1000000) :
    Calls Try.prog 39 #[.pointer (some ⟨L.D, 0, none⟩), .int .i64 at_, .int .u64 x] w (DevPost B L wv kept (now.set at_ x) (wait ++ [(at_, x, false)]) (.int .i64 0) w) := by
  obtain ⟨i0, hi, iz0, iz1, iz2⟩ := info_parts info85
  have hl := lines_any h (by omega)
  have hq : L.n / 8 = m := by omega
  rw [hq] at hl
  have c1 := h.c1
  obtain ⟨x0, hx0⟩ : ∃ x0, now[at_]? = some x0 := ⟨now[at_]'(by rw [h.nowLen]; exact hx), by simp⟩
  have e1 := h.now.cell (words_get hx0)
  have f1 := h.now.free (j := at_)
  have h1 := h.stored at_ x hx
  have c2 := h1.c2
  have hsz := h.kb
  have HL := Lib.hid hl
  have H := Lib.hid h
  have H1 := Lib.hid h1; clear h hl hx0 h1
  go_enter Try.func39, Try.ntmps39
  go_wp2_with (first
    | (go_at_call 37; refine HL.out.mono ?_; rintro e w' ⟨rfl, hw'⟩; subst w')
    | (go_at_call 70; refine (may_ok L.D at_ (8 * m) _ (by omega) (by omega)).mono ?_; rintro e w' ⟨rfl, hw'⟩; subst w')
    | (at_builtin; refine wpList_append_wide _ rfl _ _ 80 rfl B 85 i0 (.agg #[.int .i64 0, .int .u64 0, .bool false]) 3 24 Try.underlying80 hi iz0 iz1 iz2 rfl (by decide) _ _ _ rfl (H1.out.wait.alloc _) ⟨w.heap.size, 0, none⟩ 1 1 [.int .i64 at_, .int .u64 x, .bool false] rfl rfl ?c1 ?c2 ?c3 ?c4 ?c5 ?_))
  case c1 => simpa using news3 (w.setCell ⟨L.N, at_, none⟩ (.int .u64 x)) (.int .i64 at_) (.int .u64 x) (.bool false) 85
  case c2 => intro u hu; simp at hu; rcases hu with rfl | rfl | rfl <;> rfl
  case c3 => unfold maxLen; omega
  case c4 => omega
  case c5 => have := H.out.bd; simp; omega
  intro v' w1 hown hgrow hblk
  rw [show (1 : Nat) = [(at_, x, false)].length from rfl, ← List.length_append] at hown
  have hown2 : wide w1 B 85 3 v' (wait ++ [(at_, x, false)]).length (pends (wait ++ [(at_, x, false)])) := by rw [pends_snoc]; exact hown
  have hd : ∀ k, v'.ownBlock = some k → wv.ownBlock = some k ∨ w.heap.size ≤ k := by
    intro k hk
    rcases hblk with hb | hb
    · left; rw [← hb]; exact hk
    · right; rw [hb] at hk; simp at hk; omega
  have ho : Only (fun k => k = L.N ∨ wv.ownBlock = some k) w w1 :=
    (((Only.refl _ w).setCell ⟨L.N, at_, none⟩ (.int .u64 x) (.inl (.inl rfl))).alloc _).grown hgrow (fun k hk => .inl (.inr hk))
  have ho2 : Only (fun k => wv.ownBlock = some k) (w.setCell ⟨L.N, at_, none⟩ (.int .u64 x)) w1 :=
    (((Only.refl _ _).alloc _).grown hgrow (fun k hk => .inl hk))
  have hd1 : ∀ k, wv.ownBlock = some k → ¬ k = L.D ∧ ¬ k = L.K ∧ ¬ k = L.N := H.out.wd
  have hd2 : ∀ k, v'.ownBlock = some k → ¬ k = L.D ∧ ¬ k = L.K ∧ ¬ k = L.N := by
    intro k hk
    rcases hd k hk with h | h
    · exact hd1 k h
    · omega
  have hcd : w1.cell? ⟨L.D, 2, none⟩ = some wv := by rw [ho2.cell (by simp; omega) (fun h => (hd1 _ h).1 rfl)]; exact c2
  have hfd : w1.frozen? ⟨L.D, 2, none⟩ = false := by
    rw [World.frozen?_of_block (w := w.setCell ⟨L.N, at_, none⟩ (.int .u64 x)) (ho2.block L.D (by simp; omega) (fun h => (hd1 _ h).1 rfl))]; exact H1.out.f2
  have hB : wide w1 B 81 1 (.slice (some ⟨L.K, 0, none⟩) L.n L.ck) L.n (words kept) := H1.out.kept.only ho2 (fun k hk => by simp [Value.ownBlock] at hk; subst hk; exact fun h => (hd1 _ h).2.1 rfl)
  have hC : wide w1 B 81 1 (.slice (some ⟨L.N, 0, none⟩) L.n L.cn) L.n (words (now.set at_ x)) := H1.out.now.only ho2 (fun k hk => by simp [Value.ownBlock] at hk; subst hk; exact fun h => (hd1 _ h).2.2 rfl)
  have hA := ho2.block L.D (by simp; omega) (fun h => (hd1 _ h).1 rfl)
  rw [H1.out.block] at hA
  have hdev : Dev (w1.setCell ⟨L.D, 2, none⟩ v') B L v' kept (now.set at_ x) (wait ++ [(at_, x, false)]) := by
    refine ⟨?_, ?_, ?_, ?_, H.out.bd, H.out.dk, H.out.dn, H.out.kn, hd2⟩
    · rw [Lib.heap_setCell_same hA]; rfl
    · exact hB.far _ _ (by simp [Value.ownBlock]; exact fun e => H.out.dk e.symm)
    · exact hC.far _ _ (by simp [Value.ownBlock]; exact fun e => H.out.dn e.symm)
    · exact hown2.far _ _ (fun he => (hd2 _ he).1 rfl)
  have ho3 : Only (foot L wv) w (w1.setCell ⟨L.D, 2, none⟩ v') := (ho.mono (fun k hk => by rcases hk with h | h; exact .inl (.inr (.inr (.inl h))); exact .inl (.inr (.inr (.inr h))))).setCell _ _ (.inl (.inl rfl))
  obtain ⟨g', c', hv'⟩ := hown2.shape
  rw [show (wait ++ [(at_, x, false)]).length = wait.length + 1 by simp] at hv'
  subst hv'
  have HDEV := Lib.hid hdev; have HO := Lib.hid ho3; have HD := Lib.hid hd
  clear hdev ho3 hd hA hC hB hd1 hd2 ho2 ho hown2 hown hgrow hblk
  go_wp2
  go_ret
  exact ⟨rfl, _, HDEV.out, HO.out, HD.out⟩

theorem words_any (h : Dev w B L wv kept now wait) (hn : L.n ≤ 100000) : Calls Try.prog 47 #[.pointer (some ⟨L.D, 0, none⟩)] w (ClonePost 81 1 L.n (words now) w) := by
  have c1 := h.c1
  have HC := Lib.hid (clone_words h.now (by omega)); clear h
  go_enter Try.func47, Try.ntmps47
  go_wp2_with (go_at_call 44; refine HC.out.mono ?_; rintro e w1 ⟨v', rfl, ho, hb⟩)
  have HO := Lib.hid ho; have HB := Lib.hid hb; clear ho hb
  go_wp2
  go_ret
  exact ⟨_, rfl, HO.out, HB.out⟩
theorem kept_any (h : Dev w B L wv kept now wait) (hn : L.n ≤ 100000) : Calls Try.prog 48 #[.pointer (some ⟨L.D, 0, none⟩)] w (ClonePost 81 1 L.n (words kept) w) := by
  have c1 := h.c0
  have HC := Lib.hid (clone_words h.kept (by omega)); clear h
  go_enter Try.func48, Try.ntmps48
  go_wp2_with (go_at_call 44; refine HC.out.mono ?_; rintro e w1 ⟨v', rfl, ho, hb⟩)
  have HO := Lib.hid ho; have HB := Lib.hid hb; clear ho hb
  go_wp2
  go_ret
  exact ⟨_, rfl, HO.out, HB.out⟩
theorem pending_any (h : Dev w B L wv kept now wait) (hn : wait.length ≤ 100000) : Calls Try.prog 50 #[.pointer (some ⟨L.D, 0, none⟩)] w (ClonePost 85 3 wait.length (pends wait) w) := by
  have c1 := h.c2
  obtain ⟨g, c, rfl⟩ := h.wait.shape
  have HC := Lib.hid (clone_pends h.wait (by omega)); clear h
  go_enter Try.func50, Try.ntmps50
  go_wp2_with (go_at_call 38; refine HC.out.mono ?_; rintro e w1 ⟨v', rfl, ho, hb⟩)
  have HO := Lib.hid ho; have HB := Lib.hid hb; clear ho hb
  go_wp2
  go_ret
  exact ⟨_, rfl, HO.out, HB.out⟩
end

/-- A device of m lines that keeps only zeros, and of which nothing waits. -/
def NewPost (m : Nat) (w : World) (e : Ending) (w' : World) : Prop :=
  ∃ L : Places, L.n = 8 * m ∧ e = .returned (.tuple #[.pointer (some ⟨L.D, 0, none⟩), .int .i64 0]) ∧ Dev w' w.heap.size L (.slice none 0 0) (List.replicate (8 * m) 0) (List.replicate (8 * m) 0) [] ∧ Below w.heap.size w w'

set_option maxRecDepth 100000 in
set_option maxHeartbeats 1600000 in
theorem of_any (m B G c : Nat) (w : World) (hm : 0 < m) (hm2 : m ≤ 4096) (h : wide w B 81 1 (.slice (some ⟨G, 0, none⟩) (8 * m) c) (8 * m) (words (List.replicate (8 * m) 0))) :
    Calls Try.prog 69 #[.slice (some ⟨G, 0, none⟩) (8 * m : Nat) c] w (NewPost m w) := by
  have hq : ((8 * m : Nat) : Int).tmod 8 = 0 := by rw [Int.tmod_eq_emod_of_nonneg (by omega)]; omega
  have h8 : ((8 * (m : Int)) == 0) = false := by simp; omega
  have h32 : ¬ (32768 < 8 * (m : Int)) := by omega
  have HW := Lib.hid h
  have h1 := clone_words h (by omega)
  have H1 := Lib.hid h1; clear h h1
  go_enter Try.func69, Try.ntmps69
  go_wp2_with (go_at_call 44; refine H1.out.mono ?_; rintro e w1 ⟨v1, rfl, ho1, hb1⟩; obtain ⟨K, ck, rfl, hbK, hK⟩ := (wide_of_own ho1).some (by omega))
  have hs1 := hb1.size
  have H2 := Lib.hid (clone_words (HW.out.kept (w' := w1) (fun k hk => hb1.block k (HW.out.lt k hk).2)) (by omega))
  have HO1 := Lib.hid ho1; have HB1 := Lib.hid hb1; clear ho1 hb1
  go_wp2_with (go_at_call 44; refine H2.out.mono ?_; rintro e w2 ⟨v2, rfl, ho2, hb2⟩; obtain ⟨N, cn, rfl, hbN, hN⟩ := (wide_of_own ho2).some (by omega))
  have hs2 := hb2.size
  have HO2 := Lib.hid ho2; have HB2 := Lib.hid hb2; clear ho2 hb2
  go_wp2
  go_ret2
  refine ⟨⟨w2.heap.size, K, N, 8 * m, ck, cn⟩, rfl, rfl, ⟨?_, ?_, ?_, ?_, ?_, ?_, ?_, ?_, ?_⟩, ?_⟩
  · exact heap_alloc_new _ _
  · exact (((wide_of_own HO1.out).kept (w' := w2) (fun k hk => HB2.out.block k ((wide_of_own HO1.out).lt k hk).2)).alloc _)
  · exact ((wide_of_own HO2.out).weaken hs1).alloc _
  · exact wide_nil _ _ _ _
  · show w.heap.size ≤ w2.heap.size; omega
  · show ¬ w2.heap.size = K; omega
  · show ¬ w2.heap.size = N; omega
  · show ¬ K = N; omega
  · intro k hk; simp [Value.ownBlock] at hk
  · exact ((HB1.out.trans (HB2.out.mono hs1)).alloc (by omega) _)

set_option maxRecDepth 100000 in
set_option maxHeartbeats 1600000 in
theorem new_any (m : Nat) (w : World) (hm : 0 < m) (hm2 : m ≤ 4096) : Calls Try.prog 36 #[.int .i64 m] w (NewPost m w) := by
  obtain ⟨i0, hi, iz0, iz1, iz2⟩ := info_parts info81
  have hmk : (Instr.makeSlice 79 (.int .i64 (8 * (m : Int))) (.int .i64 (8 * (m : Int)))).run Try.prog w = .ok (.slice (some ⟨w.heap.size, 0, none⟩) (8 * m) (8 * m)) (w.alloc (.cells (madeCells (Value.int .u64 0).cells (8 * m)) 81)) := by
    have h := run_make (P := Try.prog) w 79 81 i0 (.int .u64 0) Try.underlying79 hi iz0 .i64 .i64 (8 * (m : Int)) (8 * (m : Int)) (by omega) (Int.le_refl _) (by rw [iz2]; omega) (by omega)
    rw [h, iz1, show (8 * (m : Int)).toNat = 8 * m by omega, Nat.mul_one]
  have hcs : (madeCells (Value.int .u64 0).cells (8 * m)).toList = words (List.replicate (8 * m) 0) := by
    exact (toList_madeCells_one (.int .u64 0) (8 * m)).trans (by simp [words])
  have hown : (w.alloc (.cells (madeCells (Value.int .u64 0).cells (8 * m)) 81)).ownsRow w.heap.size 81 1 (.slice (some ⟨w.heap.size, 0, none⟩) (8 * m) (8 * m)) (8 * m) (words (List.replicate (8 * m) 0)) :=
    own_lit _ _ _ _ rfl hcs.symm (Nat.le_refl _) (by unfold maxLen; omega) (by rw [← Array.length_toList, hcs, words_len, List.length_replicate, Nat.mul_one])
  have HOF := Lib.hid (of_any m w.heap.size w.heap.size (8 * m) (w.alloc (.cells (madeCells (Value.int .u64 0).cells (8 * m)) 81)) hm hm2 (wide_of_own hown))
  clear hown hcs
  go_enter Try.func36, Try.ntmps36
  go_wp2_with (go_at_call 69; refine HOF.out.mono ?_; rintro e w1 ⟨L, hn, rfl, hdev, hb⟩)
  have HD := Lib.hid hdev; have HB := Lib.hid hb; clear hdev hb
  go_wp2
  go_ret2
  exact ⟨L, hn, rfl, HD.out.weaken (by simp), new2 HB.out⟩
end Go.Proofs.Ythjdpcgkkmfodaa.Pend
