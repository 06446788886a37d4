/- TopLaid, fourth part: the whole walk where the layout is one. -/
import Derived.Test.YthjdpcgkkmfodaaLaidC
namespace Go.Proofs.Ythjdpcgkkmfodaa.Laid
open Go.RowKit Go.Proofs.Ythjdpcgkkmfodaa.Base Go.Proofs.Ythjdpcgkkmfodaa.Geom

def Got (B : Nat) (l : List (Int × Int × Int)) (z : Int) (w : World) (e : Ending) (w' : World) : Prop := e = .returned (.int .i64 z) ∧ All B w' l ∧ Below B w w'

theorem reg_call (p i kd n Lz z : Int) (L m m' B : Nat) (w : World) (hA : All B w (listOf p i m)) (hrow : listOf p i m ++ rowOf kd n (8 * L) = listOf p i m') (hz : Lz = L) (hmz : z = m) (hL : L ≤ 100) (hm : m ≤ 20000) :
    Calls Try.prog 12 #[.int .u8 kd, .int .i64 n, .int .i64 Lz, .pointer (some ⟨B, 0, none⟩)] w (Got B (listOf p i m') z w) := by
  subst hz hmz
  have := region_any kd n L B (listOf p i m) w hA hL (by rw [listOf_len]; exact hm)
  rw [listOf_len, hrow] at this
  exact this

theorem all_new (p i : Int) (w : World) : All w.heap.size (w.alloc (.cells #[.slice none 0 0] 34)) (listOf p i 0) :=
  ⟨.slice none 0 0, heap_alloc_new w _, World.ownsRow_nil _ _ _ _⟩

set_option maxRecDepth 100000 in
set_option maxHeartbeats 4000000 in
theorem laid_ok (a b c : Int) (w : World) (ha : -32768 ≤ a ∧ a ≤ 32767) (hb : -32768 ≤ b ∧ b ≤ 32767) (hc : -32768 ≤ c ∧ c ≤ 32767) (h : Ok (a.tmod 10) (b.tmod 67) (c.tmod 258)) :
    Calls Try.prog 3 #[.int .i16 a, .int .i16 b, .int .i16 c] w (New w (.bool true)) := by
  go_enter Try.func3, Try.ntmps3
  go_wp2_with fail
  clear ha hb hc
  generalize a.tmod 10 = p at *
  generalize b.tmod 67 = i at *
  generalize c.tmod 258 = k at *
  obtain ⟨h1, h2, h3, h4, h5, h6⟩ := id h
  go_wp2_with (go_at_call 8; refine (lines_ok _ _ _ _ h).mono ?_; rintro e w1 ⟨rfl, hb1⟩; obtain ⟨hc1, hf1, hz1⟩ := bcell hb1; (try simp only [World.size_drew, World.cell?_drew, World.frozen?_drew, World.size_alloc, World.size_setCell, Nat.add_one_le_iff] at hc1 hf1 hz1); have hs1_0 : w.heap.size < w1.heap.size := (by omega))
  have hA0 := all_new p i w1
  refine (reg_call p i 1 0 1 0 1 0 8 w1.heap.size _ hA0 (row_super h) rfl rfl (by omega) (by omega)).mono ?_
  rintro e w2 ⟨rfl, hA2, hb2⟩
  go_wp2_with fail
  refine (reg_call p i 2 0 1 8 1 8 16 w1.heap.size _ hA2 (row_maps h) rfl rfl (by omega) (by omega)).mono ?_
  rintro e w3 ⟨rfl, hA3, hb3⟩
  go_wp2_with fail
  obtain ⟨I, hI⟩ := Int.eq_ofNat_of_zero_le (show 0 ≤ i by omega)
  obtain ⟨P, hP⟩ := Int.eq_ofNat_of_zero_le (show 0 ≤ p by omega)
  have HI := Lib.hid hI; clear hI
  have HP := Lib.hid hP; clear hP
  have g0 : w1.cell? ⟨w.heap.size, 0, none⟩ = some (.int .i64 p) := by rw [hc1 _ _ (by omega)]; simp
  have g1 : w1.cell? ⟨w.heap.size, 1, none⟩ = some (.int .i64 i) := by rw [hc1 _ _ (by omega)]; simp
  have g2 : w1.cell? ⟨w.heap.size, 2, none⟩ = some (.int .i64 k) := by rw [hc1 _ _ (by omega)]; simp
  have hB3 : Below w1.heap.size w1 w3 := ((((Below.refl _ _).alloc (Nat.le_refl _) _).trans hb2).trans hb3)
  have hw : Below w.heap.size w w1 := new2 hb1
  clear hc1 hf1 hb2 hb3 hA2 hA0 hb1
  have hBw := hB3.size
  obtain ⟨B, hBe⟩ : ∃ B, B = w1.heap.size := ⟨_, rfl⟩
  rw [← hBe] at hA3 hB3 hs1_0 ⊢
  have HB := Lib.hid hBe; clear hBe hz1
  go_loopw [16] (fun v wr => ∃ n : Nat, 1 ≤ n ∧ (n : Int) ≤ i + 1 ∧ v = .int .i64 n ∧ All B wr (listOf p i (8 + 8 * n)) ∧ Below B w1 wr) (fun v _ => (i + 1 - intOf v).toNat)
  case atStart => exact ⟨1, by omega, by omega, rfl, hA3, hB3⟩
  case round =>
    obtain ⟨n, n1, n2, rfl, hA, hB⟩ := hrel
    have c0 := (hB.cell (p := ⟨w.heap.size, 0, none⟩) hs1_0).trans g0
    have c1 := (hB.cell (p := ⟨w.heap.size, 1, none⟩) hs1_0).trans g1
    have c2 := (hB.cell (p := ⟨w.heap.size, 2, none⟩) hs1_0).trans g2
    have hBs : B ≤ wr.heap.size := by have := hB.size; have := HB.out; omega
    clear hA3 hB3
    by_cases hlt : (n : Int) ≤ i
    · go_wp2_with (first | (go_at_call 9; refine (inode_in p i k n _ h (by omega) hlt).mono ?_; rintro e w4 ⟨rfl, hb4⟩; obtain ⟨hc4, hf4, hz4⟩ := bcell hb4; (try simp only [World.size_drew, World.cell?_drew, World.frozen?_drew, World.size_alloc, World.size_setCell, Nat.add_one_le_iff] at hc4 hf4 hz4)) | (go_at_call 12; refine (reg_call p i 3 n 1 (8 * n + 8) 1 (8 + 8 * n) (8 + 8 * (n + 1)) _ _ (all_kept hA hb4) (row_inode h n n1 hlt) rfl (by omega) (by omega) (by omega)).mono ?_; rintro e w5 ⟨rfl, hA5, hb5⟩))
      exact ⟨⟨n + 1, by omega, by omega, by go_num, hA5, (hB.trans (hb4.mono hBs)).trans hb5⟩, by simp [intOf]; omega⟩
    · have hne : (n : Int) = i + 1 := by omega
      have HN := Lib.hid hne; clear hne
      go_wp2_with fail
      clear c0 c1 c2
      obtain ⟨w10, rfl⟩ : ∃ wo : World, wo = wr := ⟨_, rfl⟩
      go_loopw [139] (fun v wr => ∃ n : Nat, (n : Int) ≤ p ∧ v = .int .i64 n ∧ All B wr (listOf p i (16 + 8 * I + 136 * n)) ∧ Below B w1 wr) (fun v _ => (p - intOf v).toNat)
      case atStart =>
        refine ⟨0, by omega, rfl, ?_, hB⟩
        rw [show 16 + 8 * I + 136 * 0 = 8 + 8 * n from by have := HN.out; have := HI.out; omega]; exact hA
      case round =>
        clear hA hB n1 n2 hlt hBs HN
        obtain ⟨n, n2, rfl, hA, hB⟩ := hrel
        have c0 := (hB.cell (p := ⟨w.heap.size, 0, none⟩) hs1_0).trans g0
        have c1 := (hB.cell (p := ⟨w.heap.size, 1, none⟩) hs1_0).trans g1
        have c2 := (hB.cell (p := ⟨w.heap.size, 2, none⟩) hs1_0).trans g2
        have hBs : B ≤ wr.heap.size := by have := hB.size; have := HB.out; omega
        by_cases hlt : (n : Int) < p
        · go_wp2_with (first | (go_at_call 13; refine (slot_in p i k n _ h (by omega) hlt).mono ?_; rintro e w4 ⟨rfl, hb4⟩; obtain ⟨hc4, hf4, hz4⟩ := bcell hb4; (try simp only [World.size_drew, World.cell?_drew, World.frozen?_drew, World.size_alloc, World.size_setCell, Nat.add_one_le_iff] at hc4 hf4 hz4)) | (go_at_call 12; refine (reg_call p i 4 n 17 (16 + 8 * i + 136 * n) 17 (16 + 8 * I + 136 * n) (16 + 8 * I + 136 * (n + 1)) _ _ (all_kept hA hb4) (row_slot h I HI.out.symm n hlt) rfl (by have := HI.out; omega) (by omega) (by have := HI.out; omega)).mono ?_; rintro e w5 ⟨rfl, hA5, hb5⟩))
          exact ⟨⟨n + 1, by omega, by go_num, hA5, (hB.trans (hb4.mono hBs)).trans hb5⟩, by simp [intOf]; omega⟩
        · have hne : (n : Int) = p := by omega
          have HN := Lib.hid hne; clear hne
          go_wp2_with fail
          clear c0 c1 c2
          obtain ⟨w11, rfl⟩ : ∃ wo : World, wo = wr := ⟨_, rfl⟩
          go_loopw [22] (fun v wr => ∃ n : Nat, 1 ≤ n ∧ (n : Int) ≤ k + 1 ∧ v = .int .i64 n ∧ All B wr (listOf p i (8 * I + 136 * P + 32 * n - 16)) ∧ Below B w1 wr) (fun v _ => (k + 1 - intOf v).toNat)
          case atStart =>
            refine ⟨1, by omega, by omega, rfl, ?_, hB⟩
            rw [show 8 * I + 136 * P + 32 * 1 - 16 = 16 + 8 * I + 136 * n from by have := HN.out; have := HP.out; omega]; exact hA
          case round =>
            clear hA hB n2 hlt hBs HN
            obtain ⟨n, n1, n2, rfl, hA, hB⟩ := hrel
            have c0 := (hB.cell (p := ⟨w.heap.size, 0, none⟩) hs1_0).trans g0
            have c1 := (hB.cell (p := ⟨w.heap.size, 1, none⟩) hs1_0).trans g1
            have c2 := (hB.cell (p := ⟨w.heap.size, 2, none⟩) hs1_0).trans g2
            have hBs : B ≤ wr.heap.size := by have := hB.size; have := HB.out; omega
            by_cases hlt : (n : Int) ≤ k
            · go_wp2_with (first | (go_at_call 14; refine (block_in p i k n _ h (by omega) hlt).mono ?_; rintro e w4 ⟨rfl, hb4⟩; obtain ⟨hc4, hf4, hz4⟩ := bcell hb4; (try simp only [World.size_drew, World.cell?_drew, World.frozen?_drew, World.size_alloc, World.size_setCell, Nat.add_one_le_iff] at hc4 hf4 hz4)) | (go_at_call 12; refine (reg_call p i 5 n 4 (8 * i + 136 * p + 32 * n - 16) 4 (8 * I + 136 * P + 32 * n - 16) (8 * I + 136 * P + 32 * (n + 1) - 16) _ _ (all_kept hA hb4) (row_block h I HI.out.symm P HP.out.symm n n1) rfl (by have := HI.out; have := HP.out; omega) (by omega) (by have := HI.out; have := HP.out; omega)).mono ?_; rintro e w5 ⟨rfl, hA5, hb5⟩))
              exact ⟨⟨n + 1, by omega, by omega, by go_num, hA5, (hB.trans (hb4.mono hBs)).trans hb5⟩, by simp [intOf]; omega⟩
            · have hne : (n : Int) = k + 1 := by omega
              have HN := Lib.hid hne; clear hne
              obtain ⟨v, hv, hown⟩ := id hA
              obtain ⟨g, c, rfl⟩ := own_shape hown
              have hcv := cell_of_one hv
              have HV := Lib.hid hv; clear hv
              have hLen : (listOf p i (8 * I + 136 * P + 32 * n - 16)).length = 8 * I + 136 * P + 32 * n - 16 := listOf_len _ _ _
              rw [hLen] at hown hcv
              clear hLen
              have hM : ((8 * I + 136 * P + 32 * n - 16 : Nat) : Int) = 8 * (2 + i + 17 * p + 4 * k) := by have := HI.out; have := HP.out; have := HN.out; omega
              generalize 8 * I + 136 * P + 32 * n - 16 = M at *
              have HM := Lib.hid hM; clear hM
              have hM1 : M ≤ 20000 := by have := HM.out; omega
              have hM0 : 0 < M := by have := HM.out; omega
              obtain ⟨gb, rfl⟩ : ∃ gb, g = some ⟨gb, 0, none⟩ := by
                rcases hown.2 with ⟨h, h'⟩ | ⟨gb, cap, cur, h, _⟩
                · omega
                · simp only [Value.slice.injEq] at h; exact ⟨gb, h.1⟩
              go_wp2_with fail
              obtain ⟨w12, rfl⟩ : ∃ wo : World, wo = wr := ⟨_, rfl⟩
              have HW := Lib.hid (hw.trans (hB.mono (by omega)))
              go_loopw [181] (fun v wr => ∃ n : Nat, n ≤ M ∧ v = .int .i64 n ∧ Below w12.heap.size w12 wr) (fun v _ => M - (intOf v).toNat)
              case atStart => exact ⟨0, Nat.zero_le _, rfl, Below.refl _ _⟩
              case round =>
                clear n1 n2 hlt
                obtain ⟨q, q1, rfl, hBq⟩ := hrel
                obtain ⟨d1, d2, d3⟩ := bcell hBq
                have hGs : w.heap.size < w12.heap.size := by omega
                have hBB : B < w12.heap.size := lt_of_block HV.out
                have e0 := (hBq.cell (p := ⟨w.heap.size, 0, none⟩) hGs).trans c0
                have e1 := (hBq.cell (p := ⟨w.heap.size, 1, none⟩) hGs).trans c1
                have e2 := (hBq.cell (p := ⟨w.heap.size, 2, none⟩) hGs).trans c2
                have e3 := (hBq.cell (p := ⟨B, 0, none⟩) hBB).trans hcv
                clear hBs hB hA hcv
                by_cases hlt : q < M
                · obtain ⟨hgb, hcells⟩ := row_cells hown
                  obtain ⟨⟨rk, rn, ro⟩, hr⟩ : ∃ r, reg3 p i (q : Int) = r := ⟨_, rfl⟩
                  obtain ⟨f1, f2, f3⟩ := hcells q rk rn ro hlt hr
                  have HR := Lib.hid hr; clear hr hcells
                  have f1 := (hBq.cell (p := ⟨gb, q * 3, none⟩) hgb).trans f1
                  have f2 := (hBq.cell (p := ⟨gb, q * 3 + 1, none⟩) hgb).trans f2
                  have f3 := (hBq.cell (p := ⟨gb, q * 3 + 2, none⟩) hgb).trans f3
                  have hgr : gb < wr.heap.size := by omega
                  have hGr : w.heap.size < wr.heap.size := by omega
                  clear d1 d2 hown
                  go_wp2_with (go_at_call 10; refine (what_at p i k q rk rn ro _ h (by omega) (by have := HM.out; omega) HR.out).mono ?_; rintro e w4 ⟨rfl, hb4⟩; obtain ⟨hc4, hf4, hz4⟩ := bcell hb4; (try simp only [World.size_drew, World.cell?_drew, World.frozen?_drew, World.size_alloc, World.size_setCell, Nat.add_one_le_iff] at hc4 hf4 hz4))
                  exact ⟨⟨q + 1, by omega, by go_num, new3 (newTa hBq hb4) (Nat.le_refl _)⟩, by simp [intOf]; omega⟩
                · have hqe : q = M := by omega
                  subst hqe
                  have hGr : w.heap.size < wr.heap.size := by omega
                  have hBr : B < wr.heap.size := by omega
                  have hq : (8 * (2 + i + 17 * p + 4 * k) == (q : Int)) = true := by rw [beq_iff_eq]; exact HM.out.symm
                  have HX := Lib.hid hq; clear hq
                  clear d1 d2 d3 hown c0 c1 c2 q1 hlt
                  go_wp2_with fail
                  refine (what_out p i k _ _ h (by have := HM.out; omega)).mono ?_; rintro e w4 ⟨rfl, hb4⟩; obtain ⟨hc4, hf4, hz4⟩ := bcell hb4; (try simp only [World.size_drew, World.cell?_drew, World.frozen?_drew, World.size_alloc, World.size_setCell, Nat.add_one_le_iff] at hc4 hf4 hz4); have s4 : w.heap.size < w4.heap.size := (by omega); have t4 : B < w4.heap.size := (by omega)
                  go_wp2_with fail
                  refine (what_out p i k _ _ h (by omega)).mono ?_; rintro e w5 ⟨rfl, hb5⟩; obtain ⟨hc5, hf5, hz5⟩ := bcell hb5; (try simp only [World.size_drew, World.cell?_drew, World.frozen?_drew, World.size_alloc, World.size_setCell, Nat.add_one_le_iff] at hc5 hf5 hz5); have s5 : w.heap.size < w5.heap.size := (by omega); have t5 : B < w5.heap.size := (by omega)
                  go_wp2_with fail
                  refine (inode_out p i k _ h).mono ?_; rintro e w6 ⟨rfl, hb6⟩; obtain ⟨hc6, hf6, hz6⟩ := bcell hb6; (try simp only [World.size_drew, World.cell?_drew, World.frozen?_drew, World.size_alloc, World.size_setCell, Nat.add_one_le_iff] at hc6 hf6 hz6); have s6 : w.heap.size < w6.heap.size := (by omega); have t6 : B < w6.heap.size := (by omega)
                  go_wp2_with fail
                  refine (slot_out p i k _ h).mono ?_; rintro e w7 ⟨rfl, hb7⟩; obtain ⟨hc7, hf7, hz7⟩ := bcell hb7; (try simp only [World.size_drew, World.cell?_drew, World.frozen?_drew, World.size_alloc, World.size_setCell, Nat.add_one_le_iff] at hc7 hf7 hz7); have s7 : w.heap.size < w7.heap.size := (by omega); have t7 : B < w7.heap.size := (by omega)
                  go_wp2_with fail
                  refine (block_out p i k _ h).mono ?_; rintro e w8 ⟨rfl, hb8⟩; obtain ⟨hc8, hf8, hz8⟩ := bcell hb8; (try simp only [World.size_drew, World.cell?_drew, World.frozen?_drew, World.size_alloc, World.size_setCell, Nat.add_one_le_iff] at hc8 hf8 hz8); have s8 : w.heap.size < w8.heap.size := (by omega); have t8 : B < w8.heap.size := (by omega)
                  have hq := HX.out
                  go_wp2_with fail
                  go_ret
                  exact ⟨rfl, newT (newT (newTa (newTa (newT (newT HW.out hBq) hb4) hb5) hb6) hb7) hb8⟩
end Go.Proofs.Ythjdpcgkkmfodaa.Laid
