/- The contract of media's Flush. -/
import Derived.Test.YthjdpcgkkmfodaaPendD
namespace Go.Proofs.Ythjdpcgkkmfodaa.Pend
open Go.RowKit Go.Proofs.Ythjdpcgkkmfodaa.Base
set_option linter.unusedVariables false
set_option linter.unusedSimpArgs false

def flag (line : Nat) (p : P3) : P3 := (p.1, p.2.1, p.2.2 || p.1 / 8 == line)
/-- The first k are flushed. -/
def flushTo (line : Nat) (l : List P3) (k : Nat) : List P3 := (l.take k).map (flag line) ++ l.drop k
theorem flushTo_zero (line : Nat) (l : List P3) : flushTo line l 0 = l := by simp [flushTo]
theorem flushTo_all (line : Nat) (l : List P3) : flushTo line l l.length = l.map (flag line) := by simp [flushTo]
theorem flushTo_len (line : Nat) (l : List P3) (k : Nat) : (flushTo line l k).length = l.length := by simp [flushTo]; omega
theorem flushTo_get {line : Nat} {l : List P3} {k : Nat} {p : P3} (h : l[k]? = some p) : (flushTo line l k)[k]? = some p := by
  have hk := (List.getElem?_eq_some_iff.1 h).1
  have hl : ((l.take k).map (flag line)).length = k := by simp; omega
  rw [flushTo, List.getElem?_append_right (by omega), hl]
  simpa using h
theorem flushTo_step {line : Nat} {l : List P3} {k : Nat} {p : P3} (h : l[k]? = some p) : (flushTo line l k).set k (flag line p) = flushTo line l (k + 1) := by
  have hk := (List.getElem?_eq_some_iff.1 h).1
  have hl : ((l.take k).map (flag line)).length = k := by simp; omega
  have key : (l.drop k).set 0 (flag line p) = flag line p :: l.drop (k + 1) := by rw [List.drop_eq_getElem_cons hk]; rfl
  rw [flushTo, List.set_append_right _ _ (by omega), hl, flushTo, List.take_add_one, h, Nat.sub_self, key]
  simp

section
variable {w : World} {B : Nat} {L : Places} {wv : Value} {kept now : List Int} {wait : List P3}
theorem Dev.drew (h : Dev w B L wv kept now wait) : Dev w.drew B L wv kept now wait := h.only (S := fun _ => False) ((Only.refl _ w).drew) (fun _ _ h => h)
theorem Dev.flagged {g c q : Nat} (h : Dev w B L (.slice (some ⟨g, 0, none⟩) q c) kept now wait) {k : Nat} {p : P3} (hk : wait[k]? = some p) (b : Bool) :
    Dev (w.setCell ⟨g, k * 3 + 2, none⟩ (.bool b)) B L (.slice (some ⟨g, 0, none⟩) q c) kept now (wait.set k (p.1, p.2.1, b)) := by
  obtain ⟨n1, n2, n3⟩ := h.wd g rfl
  have hkl := (List.getElem?_eq_some_iff.1 hk).1
  refine ⟨?_, ?_, ?_, ?_, h.bd, h.dk, h.dn, h.kn, h.wd⟩
  · rw [Below.heap_setCell _ _ _ _ (fun e => n1 e.symm)]; exact h.block
  · exact h.kept.far _ _ (by simp [Value.ownBlock]; exact fun e => n2 e.symm)
  · exact h.now.far _ _ (by simp [Value.ownBlock]; exact fun e => n3 e.symm)
  · have hq : q = wait.length := by
      have := h.wait.shape; obtain ⟨_, _, e⟩ := this; simp at e; exact e.2.1
    rw [← pends_flag hk, List.length_set]
    have hw := h.wait
    rw [hq] at hw ⊢
    exact hw.set (by omega)

set_option maxRecDepth 100000 in
set_option maxHeartbeats 1600000 in
theorem flush_ok (h : Dev w B L wv kept now wait) (m : Nat) (hn : L.n = 8 * m) (hm : m ≤ 100000) (line : Nat) (hx : line < m) (hw : wait.length ≤ 1000000) (hat : ∀ p ∈ wait, p.1 < L.n) :
    Calls Try.prog 40 #[.pointer (some ⟨L.D, 0, none⟩), .int .i64 line] w (DevPost B L wv kept now (wait.map (flag line)) (.int .i64 0) w) := by
  obtain ⟨i0, hi, iz0, iz1, iz2⟩ := info_parts info85
  have hl := lines_any h (by omega)
  have hq : L.n / 8 = m := by omega
  rw [hq] at hl
  have c2 := h.c2
  obtain ⟨g, c, rfl⟩ := h.wait.shape
  have hsz := h.kb
  have HL := Lib.hid hl
  have H := Lib.hid h
  have HAT := Lib.hid hat
  clear h hl hat
  go_enter Try.func40, Try.ntmps40
  go_wp2_with (first
    | (go_at_call 37; refine HL.out.mono ?_; rintro e w' ⟨rfl, hw'⟩; subst w')
    | (go_at_call 70; refine (may_ok L.D line m _ (by omega) (by omega)).mono ?_; rintro e w' ⟨rfl, hw'⟩; subst w'))
  go_loopw [20] (fun i wr => ∃ k : Nat, k ≤ wait.length ∧ i = .int .i64 k ∧ Dev wr B L (.slice g wait.length c) kept now (flushTo line wait k) ∧ Only (foot L (.slice g wait.length c)) w wr) (fun i _ => wait.length - (intOf i).toNat)
  case atStart => exact ⟨0, by omega, rfl, by rw [flushTo_zero]; exact H.out, Only.refl _ _⟩
  case round =>
    obtain ⟨k, hk, rfl, hdev, honly⟩ := hrel
    by_cases hlt : k < wait.length
    · obtain ⟨p, hp⟩ : ∃ p, wait[k]? = some p := ⟨wait[k], by simp [hlt]⟩
      have hp2 := flushTo_get (line := line) hp
      have hln := flushTo_len line wait k
      obtain ⟨G, c', hv, hBG, hG⟩ := hdev.wait.some (by omega)
      simp only [Value.slice.injEq] at hv
      obtain ⟨rfl, -, rfl⟩ := hv
      obtain ⟨hg0, hg1, hg2⟩ := pends_get hp2
      have hwt := hdev.wait
      rw [hln] at hwt
      have e0 := hwt.cell hg0
      have e1 := hwt.cell hg1
      have e2 := hwt.cell hg2
      have f2 := hwt.free (j := k * 3 + 2)
      have cD := hdev.c2
      obtain ⟨n1, n2, n3⟩ := hdev.wd G rfl
      have hdk := hdev.kb
      have HDEV := Lib.hid hdev; have HO := Lib.hid honly; have HP := Lib.hid hp; have HP2 := Lib.hid hp2; have HLN := Lib.hid hln
      clear hdev honly hp hp2 hln hwt hg0 hg1 hg2
      have hneg : ¬ G = wr.heap.size := by omega
      have hneg' : ¬ wr.heap.size = G := by omega
      have hned : ¬ L.D = wr.heap.size := by omega
      have hned' : ¬ wr.heap.size = L.D := by omega
      go_wp2_with fail
      obtain ⟨a, x, fl⟩ := p
      dsimp only at e0 e1 e2 ⊢
      have hon1 : Only (foot L (.slice (some ⟨G, 0, none⟩) wait.length c)) wr (wr.alloc (.cells #[.int .i64 (a : Int), .int .u64 x, .bool fl] 85)) := (Only.refl _ wr).alloc _
      have hdev1 : Dev (wr.alloc (.cells #[.int .i64 (a : Int), .int .u64 x, .bool fl] 85)) B L (.slice (some ⟨G, 0, none⟩) wait.length c) kept now (flushTo line wait k) :=
        HDEV.out.only (S := fun _ => False) ((Only.refl _ wr).alloc _) (fun _ _ h => h)
      have a0 : (wr.alloc (.cells #[.int .i64 (a : Int), .int .u64 x, .bool fl] 85)).cell? ⟨wr.heap.size, 0, none⟩ = some (.int .i64 (a : Int)) := by simp
      have a2 : (wr.alloc (.cells #[.int .i64 (a : Int), .int .u64 x, .bool fl] 85)).cell? ⟨wr.heap.size, 2, none⟩ = some (.bool fl) := by simp
      have hwt := hdev1.wait
      rw [HLN.out] at hwt
      obtain ⟨-, -, hg2⟩ := pends_get HP2.out
      have b2 := hwt.cell hg2
      have g2 := hwt.free (j := k * 3 + 2)
      have dD := hdev1.c2
      have hfl := hdev1.flagged HP2.out
      generalize wr.alloc (.cells #[.int .i64 (a : Int), .int .u64 x, .bool fl] 85) = W1 at hon1 hdev1 a0 a2 b2 g2 dD hfl ⊢
      have HD1 := Lib.hid hdev1; have HO1 := Lib.hid hon1; have HF := Lib.hid hfl
      have hsl : ¬ wr.heap.size = G := hneg'
      have hqa : ((a : Int)).tdiv 8 = ((a / 8 : Nat) : Int) := by rw [Int.tdiv_eq_ediv_of_nonneg (by omega)]; omega
      have haL := HAT.out _ (List.mem_of_getElem? HP.out)
      have hqw : wrap64 ((a : Int) / 8) = ((a / 8 : Nat) : Int) := by dsimp only at haL; unfold wrap64; omega
      have HQW := Lib.hid hqw; clear hqw haL
      clear hdev1 hon1 hfl hwt hg2 e0 e1 e2 f2 cD
      have hrest : ∀ b, b = (fl || a / 8 == line) → ∃ k' : Nat, k' ≤ wait.length ∧ Value.int .i64 ((k : Int) + 1) = .int .i64 k' ∧ Dev (W1.setCell ⟨G, k * 3 + 2, none⟩ (.bool b)).drew B L (.slice (some ⟨G, 0, none⟩) wait.length c) kept now (flushTo line wait k') ∧ Only (foot L (.slice (some ⟨G, 0, none⟩) wait.length c)) w (W1.setCell ⟨G, k * 3 + 2, none⟩ (.bool b)).drew := by
        rintro b rfl
        refine ⟨k + 1, by omega, by simp, ?_, ?_⟩
        · rw [← flushTo_step HP.out]; exact (HF.out _).drew
        · exact ((HO.out.trans HO1.out).setCell ⟨G, k * 3 + 2, none⟩ _ (.inl (.inr (.inr (.inr rfl))))).drew
      have HR := Lib.hid hrest; clear hrest
      cases fl with
      | true =>
        go_region
        go_wp2
        exact ⟨HR.out _ rfl, by simp [intOf]; omega⟩
      | false =>
        by_cases hla : a / 8 = line
        · have hq1 : ((a / 8 : Nat) : Int) = (line : Int) := by omega
          go_region
          go_wp2
          exact ⟨HR.out _ (by simp [hla]), by simp [intOf]; omega⟩
        · have hq1 : ¬ ((a / 8 : Nat) : Int) = (line : Int) := by omega
          have hq3 : ((a / 8 : Nat) == line) = false := by simpa using hla
          have hq2 : (((a / 8 : Nat) : Int) == (line : Int)) = false := by simpa using hq1
          go_region
          go_wp2
          exact ⟨HR.out _ (by rw [HQW.out, hq2, hq3]; rfl), by simp [intOf]; omega⟩
    · have hke : k = wait.length := by omega
      subst hke
      have HD := Lib.hid hdev
      have HO := Lib.hid honly; clear hdev honly
      go_wp2
      go_ret
      refine ⟨rfl, _, ?_, HO.out, fun k hk => .inl hk⟩
      rw [← flushTo_all]; exact HD.out
end
end Go.Proofs.Ythjdpcgkkmfodaa.Pend
