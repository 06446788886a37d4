/- media's settle, with either closure. -/
import Derived.Test.YthjdpcgkkmfodaaPendF
namespace Go.Proofs.Ythjdpcgkkmfodaa.Pend
open Go.RowKit Go.Proofs.Ythjdpcgkkmfodaa.Base
set_option linter.unusedVariables false
set_option linter.unusedSimpArgs false

set_option maxRecDepth 100000 in
theorem flagged_any (i : Nat) (a : Nat) (x : Int) (f : Bool) (w : World) :
    Calls Try.prog 72 #[.int .i64 i, .agg #[.int .i64 a, .int .u64 x, .bool f]] w fun e w' => e = .returned (.bool f) ∧ Below w.heap.size w w' := by
  go_enter Try.func72, Try.ntmps72
  go_wp2
  go_ret
  exact ⟨rfl, (Below.refl _ _).alloc (Nat.le_refl _) _⟩

/-- Which of those that wait a crash keeps. -/
def keeps (keep : List Bool) (i : Nat) : Bool := (keep[i]?).getD false
/-- A variable at b holds a slice with these, outside the blocks S. -/
def KeepAt (S : Nat → Prop) (w : World) (b : Nat) (keep : List Bool) : Prop :=
  ∃ ao c, w.cell? ⟨b, 0, none⟩ = some (.slice ao keep.length c) ∧ (ao = none → keep = []) ∧ ¬ S b ∧ ∀ ad, ao = some ad → ∀ j y, keep[j]? = some y → w.cell? (ad.add j) = some (.bool y) ∧ ¬ S ad.block
theorem KeepAt.only {S : Nat → Prop} {w w' : World} {b : Nat} {keep : List Bool} (h : KeepAt S w b keep) (ho : Only S w w') : KeepAt S w' b keep := by
  obtain ⟨ao, c, hc, hn, hb, hk⟩ := h
  refine ⟨ao, c, ?_, hn, hb, fun ad e j y hj => ⟨?_, (hk ad e j y hj).2⟩⟩
  · rw [ho.cell (by simpa using World.block_lt_of_cell? w _ hc) hb]; exact hc
  · obtain ⟨h1, h2⟩ := hk ad e j y hj
    have hlt := World.block_lt_of_cell? w _ h1
    have hadd : (ad.add j).block = ad.block := by unfold Addr.add; split <;> rfl
    rw [World.cell?_of_block (ho.block (ad.add j).block hlt (by rw [hadd]; exact h2))]; exact h1
theorem KeepAt.lt {S : Nat → Prop} {w : World} {b : Nat} {keep : List Bool} (h : KeepAt S w b keep) : b < w.heap.size := by
  obtain ⟨ao, c, hc, _⟩ := h
  simpa using World.block_lt_of_cell? w _ hc

set_option maxRecDepth 100000 in
theorem keeps_any {S : Nat → Prop} (b : Nat) (keep : List Bool) (i : Nat) (a : Nat) (x : Int) (f : Bool) (w : World) (hl : keep.length ≤ 1000000) (h : KeepAt S w b keep) :
    Calls Try.prog 73 #[.int .i64 i, .agg #[.int .i64 a, .int .u64 x, .bool f], .pointer (some ⟨b, 0, none⟩)] w fun e w' => e = .returned (.bool (keeps keep i)) ∧ Below w.heap.size w w' := by
  have hb := h.lt
  obtain ⟨ao, c, hc, hn, -, hk⟩ := h
  by_cases hlt : i < keep.length
  · obtain ⟨y, hy⟩ : ∃ y, keep[i]? = some y := ⟨keep[i], by simp [hlt]⟩
    cases ao with
    | none => have := hn rfl; subst this; simp at hlt
    | some ad =>
      have hcell := (hk ad rfl i y hy).1
      have hlt2 := World.block_lt_of_cell? w _ hcell
      have hkeep : keeps keep i = y := by simp [keeps, hy]
      rw [hkeep]
      clear hk hn hy hkeep
      go_enter Try.func73, Try.ntmps73
      go_wp2
      go_ret
      exact ⟨rfl, (Below.refl _ _).alloc (Nat.le_refl _) _⟩
  · have hkeep : keeps keep i = false := by simp [keeps]; rw [List.getElem?_eq_none (by omega)]; rfl
    rw [hkeep]
    clear hk hn hkeep
    go_enter Try.func73, Try.ntmps73
    go_wp2
    go_ret
    exact ⟨rfl, (Below.refl _ _).alloc (Nat.le_refl _) _⟩

/-- What is kept behind the first k of those that wait. -/
def keepTo (is : Nat → P3 → Bool) (l : List P3) (kept : List Int) : Nat → List Int
  | 0 => kept
  | k + 1 => match l[k]? with
    | some p => if is k p then (keepTo is l kept k).set p.1 p.2.1 else keepTo is l kept k
    | none => keepTo is l kept k
/-- Which of the first k wait on. -/
def leftTo (is : Nat → P3 → Bool) (l : List P3) : Nat → List P3
  | 0 => []
  | k + 1 => match l[k]? with
    | some p => if is k p then leftTo is l k else leftTo is l k ++ [p]
    | none => leftTo is l k
theorem keepTo_hit {is : Nat → P3 → Bool} {l : List P3} {kept : List Int} {k : Nat} {p : P3} (h : l[k]? = some p) (hi : is k p = true) : keepTo is l kept (k + 1) = (keepTo is l kept k).set p.1 p.2.1 := by simp only [keepTo, h, hi, if_true]
theorem keepTo_miss {is : Nat → P3 → Bool} {l : List P3} {kept : List Int} {k : Nat} {p : P3} (h : l[k]? = some p) (hi : is k p = false) : keepTo is l kept (k + 1) = keepTo is l kept k := by simp [keepTo, h, hi]
theorem leftTo_hit {is : Nat → P3 → Bool} {l : List P3} {k : Nat} {p : P3} (h : l[k]? = some p) (hi : is k p = true) : leftTo is l (k + 1) = leftTo is l k := by simp [leftTo, h, hi]
theorem leftTo_miss {is : Nat → P3 → Bool} {l : List P3} {k : Nat} {p : P3} (h : l[k]? = some p) (hi : is k p = false) : leftTo is l (k + 1) = leftTo is l k ++ [p] := by simp [leftTo, h, hi]
theorem Dev.keptSet {w : World} {B : Nat} {L : Places} {wv : Value} {kept now : List Int} {wait : List P3} (h : Dev w B L wv kept now wait) (at_ : Nat) (x : Int) (hx : at_ < L.n) : Dev (w.setCell ⟨L.K, at_, none⟩ (.int .u64 x)) B L wv (kept.set at_ x) now wait := by
  refine ⟨?_, ?_, ?_, ?_, h.bd, h.dk, h.dn, h.kn, h.wd⟩
  · rw [Below.heap_setCell _ _ _ _ h.dk]; exact h.block
  · rw [← words_set]; exact h.kept.set (by omega)
  · exact h.now.far _ _ (by simp [Value.ownBlock]; exact fun e => h.kn e.symm)
  · exact h.wait.far _ _ (fun he => (h.wd _ he).2.1 rfl)
theorem Dev.waitRow {w w' : World} {B : Nat} {L : Places} {G n c : Nat} {kept now : List Int} {wait wait' : List P3} (h : Dev w B L (.slice (some ⟨G, 0, none⟩) n c) kept now wait) (hg : w.grownBy w' (some G)) (hw : wide w' B 85 3 (.slice (some ⟨G, 0, none⟩) n c) n (pends wait')) (hl : wait'.length = n) :
    Dev w' B L (.slice (some ⟨G, 0, none⟩) n c) kept now wait' := by
  obtain ⟨n1, n2, n3⟩ := h.wd G rfl
  have hk := h.kb
  refine ⟨?_, ?_, ?_, by rw [hl]; exact hw, h.bd, h.dk, h.dn, h.kn, h.wd⟩
  · rw [hg.block L.D hk.1 (by simp; exact fun e => n1 e.symm)]; exact h.block
  · exact h.kept.kept fun k hv => by simp [Value.ownBlock] at hv; subst hv; exact hg.block _ hk.2.1 (by simp; exact fun e => n2 e.symm)
  · exact h.now.kept fun k hv => by simp [Value.ownBlock] at hv; subst hv; exact hg.block _ hk.2.2 (by simp; exact fun e => n3 e.symm)
theorem take_set_snoc {α : Type} (X : List α) (m : Nat) (p : α) (h : m < X.length) : (X.set m p).take (m + 1) = X.take m ++ [p] := by
  rw [List.take_add_one, List.take_set_of_le (Nat.le_refl _)]
  simp [h]
theorem keepTo_len (is : Nat → P3 → Bool) (l : List P3) (kept : List Int) (k : Nat) : (keepTo is l kept k).length = kept.length := by
  induction k with
  | zero => rfl
  | succ k ih => simp only [keepTo]; split; split <;> simp [ih]; exact ih
theorem leftTo_le (is : Nat → P3 → Bool) (l : List P3) (k : Nat) : (leftTo is l k).length ≤ k := by
  induction k with
  | zero => simp [leftTo]
  | succ k ih =>
    simp only [leftTo]
    split
    · split
      · omega
      · rw [List.length_append]; simp; exact ih
    · omega

set_option maxRecDepth 100000 in
set_option maxHeartbeats 1600000 in
theorem settle72 {w : World} {B : Nat} {L : Places} {wv : Value} {kept now : List Int} {wait : List P3} (h : Dev w B L wv kept now wait) (hn : L.n ≤ 1000000) (hw : wait.length ≤ 1000000) (hat : ∀ p ∈ wait, p.1 < L.n) :
    Calls Try.prog 71 #[.pointer (some ⟨L.D, 0, none⟩), .func (.func 72) #[] #[]] w fun e w' => e = .returned (.tuple #[]) ∧ ∃ wv', Dev w' B L wv' (keepTo (fun _ p => p.2.2) wait kept wait.length) now (leftTo (fun _ p => p.2.2) wait wait.length) ∧ Only (foot L wv) w w' ∧ ∀ k, wv'.ownBlock = some k → wv.ownBlock = some k := by
  obtain ⟨i0, hi, iz0, iz1, iz2⟩ := info_parts info85
  have c2 := h.c2
  obtain ⟨g, c, rfl⟩ := h.wait.shape
  have hsz := h.kb
  have H := Lib.hid h
  have HAT := Lib.hid hat
  clear h hat
  go_enter Try.func71, Try.ntmps71
  go_wp2_with fail
  rcases H.out.wait.2 with ⟨hv, h0⟩ | ⟨G, cap, cur, hv, hBG, hg, hcap, hmax, hcs, htake⟩
  · simp only [Value.slice.injEq] at hv
    obtain ⟨rfl, -, rfl⟩ := hv
    have hnil : wait = [] := List.eq_nil_of_length_eq_zero h0
    subst hnil
    go_region
    have hdev0 := H.out.drew
    have cD := hdev0.c2
    have fD := hdev0.f2
    have hfin := hdev0.waits (wv' := .slice none 0 0) (wait' := []) (wide_nil _ _ _ _) (fun k hk => by simp [Value.ownBlock] at hk)
    have HF := Lib.hid hfin; clear hdev0 hfin
    go_wp2_with fail
    go_loopw [4, 22] (fun r i wr => r = .slice none 0 0 ∧ i = .int .i64 0 ∧ wr = w.drew) (fun _ i _ => 0)
    case atStart => exact ⟨rfl, rfl, rfl⟩
    case round =>
      obtain ⟨rfl, rfl, rfl⟩ := hrel
      go_wp2_with fail
      go_end0
      exact ⟨rfl, _, HF.out, ((Only.refl _ w).drew).setCell _ _ (.inl (.inl rfl)), fun k hk => hk⟩
  · simp only [Value.slice.injEq] at hv
    obtain ⟨rfl, -, rfl⟩ := hv
    clear hg hcs htake
    go_region
    have hdev0 := H.out.drew
    have honly0 : Only (foot L (.slice (some ⟨G, 0, none⟩) wait.length c)) w w.drew := (Only.refl _ w).drew
    have cD := hdev0.c2
    have HD0 := Lib.hid hdev0; have HO0 := Lib.hid honly0; clear hdev0 honly0
    go_wp2_with fail
    go_loopw [4, 22] (fun r i wr => ∃ k m : Nat, ∃ X : List P3, k ≤ wait.length ∧ m ≤ k ∧ i = .int .i64 k ∧ r = .slice (some ⟨G, 0, none⟩) m wait.length ∧ Dev wr B L (.slice (some ⟨G, 0, none⟩) wait.length c) (keepTo (fun _ p => p.2.2) wait kept k) now X ∧
      X.length = wait.length ∧ X.take m = leftTo (fun _ p => p.2.2) wait k ∧ (∀ j, k ≤ j → X[j]? = wait[j]?) ∧ Only (foot L (.slice (some ⟨G, 0, none⟩) wait.length c)) w wr) (fun _ i _ => wait.length - (intOf i).toNat)
    case atStart => exact ⟨0, 0, wait, by omega, by omega, rfl, rfl, HD0.out, rfl, by simp [leftTo], fun _ _ => rfl, HO0.out⟩
    case round =>
      obtain ⟨k, m, X, hk, hmk, rfl, rfl, hdev, hX, hleft, hrest, honly⟩ := hrel
      by_cases hlt : k < wait.length
      · obtain ⟨p, hp⟩ : ∃ p, wait[k]? = some p := ⟨wait[k], by simp [hlt]⟩
        have hXk : X[k]? = some p := by rw [hrest k (Nat.le_refl _)]; exact hp
        have hwt := hdev.wait
        rw [hX] at hwt
        obtain ⟨hg0, hg1, hg2⟩ := pends_get hXk
        have e0 := hwt.cell hg0
        have e1 := hwt.cell hg1
        have e2 := hwt.cell hg2
        have hdk := hdev.kb
        have hGlt := (hwt.lt G rfl).2
        have haL := HAT.out p (List.mem_of_getElem? hp)
        obtain ⟨a, x, fl⟩ := p
        dsimp only at e0 e1 e2 haL
        obtain ⟨n1, n2, n3⟩ := hdev.wd G rfl
        have HDEV := Lib.hid hdev; have HO := Lib.hid honly; have HP := Lib.hid hp; have HX := Lib.hid hX; have HLE := Lib.hid hleft; have HRE := Lib.hid hrest
        clear hdev honly hp hX hleft hrest hwt hg0 hg1 hg2 hXk
        have hcall := flagged_any k a x fl (wr.alloc (.cells #[.int .i64 (a : Int), .int .u64 x, .bool fl] 85))
        have hcall2 : Calls Try.prog 72 #[.int .i64 k, .agg #[.int .i64 a, .int .u64 x, .bool fl]] (wr.alloc (.cells #[.int .i64 (a : Int), .int .u64 x, .bool fl] 85)) fun e w2 => e = .returned (.bool (fl)) ∧
            Dev w2 B L (.slice (some ⟨G, 0, none⟩) wait.length c) (keepTo (fun _ p => p.2.2) wait kept k) now X ∧ w2.cell? ⟨wr.heap.size, 0, none⟩ = some (.int .i64 (a : Int)) ∧ w2.cell? ⟨wr.heap.size, 1, none⟩ = some (.int .u64 x) ∧ w2.cell? ⟨wr.heap.size, 2, none⟩ = some (.bool fl) ∧
            wr.heap.size + 1 ≤ w2.heap.size ∧ Only (foot L (.slice (some ⟨G, 0, none⟩) wait.length c)) w w2 := by
          refine hcall.mono ?_
          rintro e w2 ⟨rfl, hb2⟩
          have hon2 : Only (fun _ => False) wr w2 := ((Only.refl _ wr).alloc _).trans (Only.of_below hb2)
          refine ⟨rfl, HDEV.out.only hon2 (fun _ _ h => h), ?_, ?_, ?_, by simpa using hb2.size, HO.out.trans (hon2.mono (fun _ h => h.elim))⟩
          · rw [hb2.cell (p := ⟨wr.heap.size, 0, none⟩) (by simp)]; simp
          · rw [hb2.cell (p := ⟨wr.heap.size, 1, none⟩) (by simp)]; simp
          · rw [hb2.cell (p := ⟨wr.heap.size, 2, none⟩) (by simp)]; simp
        have HC := Lib.hid hcall2; clear hcall hcall2
        cases fl with
        | true =>
          go_wp2_with (go_at_call 72; refine HC.out.mono ?_; rintro e w2 ⟨rfl, hdev2, v0, v1, v2, hs2, hono⟩)
          have HON := Lib.hid hono; clear hono e0 e1 e2
          obtain ⟨y, hy⟩ : ∃ y, (keepTo (fun _ p => p.2.2) wait kept k)[a]? = some y := ⟨_, List.getElem?_eq_getElem (by rw [hdev2.keptLen]; exact haL)⟩
          have k0 := hdev2.c0
          have ky := hdev2.kept.cell (words_get hy)
          have kf := hdev2.kept.free (j := a)
          have hset := hdev2.keptSet a x haL
          rw [← keepTo_hit (is := fun _ p => p.2.2) (p := (a, x, true)) HP.out rfl] at hset
          have HS := Lib.hid hset.drew; clear hset hdev2 hy
          go_region
          go_wp2
          exact ⟨⟨k + 1, m, X, by omega, by omega, by go_num, rfl, HS.out, HX.out, by rw [leftTo_hit (is := fun _ p => p.2.2) (p := (a, x, true)) HP.out rfl]; exact HLE.out, fun j hj => HRE.out j (by omega), (HON.out.setCell ⟨L.K, a, none⟩ _ (.inl (.inr (.inl rfl)))).drew⟩, by simp [intOf]; omega⟩
        | false =>
          obtain ⟨hwide, hM, hXL⟩ : (∀ w2 : World, Dev w2 B L (.slice (some ⟨G, 0, none⟩) wait.length c) (keepTo (fun _ p => p.2.2) wait kept k) now X → wide w2 B 85 3 (.slice (some ⟨G, 0, none⟩) wait.length c) wait.length (pends X)) ∧ m < wait.length ∧ X.length = wait.length :=
            ⟨fun w2 h => by have := h.wait; rw [HX.out] at this; exact this, by omega, HX.out⟩
          have HW := Lib.hid hwide; have HXL := Lib.hid hXL; clear hwide hXL
          go_wp2_with (first
            | (go_at_call 72; refine HC.out.mono ?_; rintro e w2 ⟨rfl, hdev2, v0, v1, v2, hs2, hono⟩; have HON := Lib.hid hono; clear hono; have HD2 := Lib.hid hdev2; clear hdev2)
            | (at_builtin; refine wpList_append_inplace _ rfl _ _ 80 rfl B 85 i0 Try.underlying80 hi iz1 G wait.length c m X (a, x, false) HXL.out hM rfl ((HW.out _ HD2.out).alloc _) ⟨w2.heap.size, 0, none⟩ 1 rfl ?c1 ?_))
          case c1 => exact news3 _ _ _ _ _
          intro w3 hw3 hgrow
          have hd3 := (HD2.out.only (S := fun _ => False) ((Only.refl _ w2).alloc _) (fun _ _ h => h)).waitRow hgrow hw3 (by rw [List.length_set]; exact HXL.out)
          have ho3 : Only (foot L (.slice (some ⟨G, 0, none⟩) wait.length c)) w w3 := (HON.out.alloc _).grown hgrow (fun k hk => .inl (.inr (.inr (.inr (by simpa [Value.ownBlock] using hk)))))
          rw [← keepTo_miss (is := fun _ p => p.2.2) (p := (a, x, false)) HP.out rfl] at hd3
          have HD3 := Lib.hid hd3; have HO3 := Lib.hid ho3; clear hd3 ho3 hw3 hgrow
          go_wp2
          exact ⟨⟨k + 1, m + 1, X.set m (a, x, false), by omega, by omega, by go_num, rfl, HD3.out, by rw [List.length_set]; exact HX.out, by rw [leftTo_miss (is := fun _ p => p.2.2) (p := (a, x, false)) HP.out rfl, take_set_snoc _ _ _ (by rw [HX.out]; omega), HLE.out],
            fun j hj => by rw [List.getElem?_set_ne (by omega)]; exact HRE.out j (by omega), HO3.out⟩, by simp [intOf]; omega⟩
      · have hke : k = wait.length := by omega
        subst hke
        have hfin := hdev.waits (wv' := .slice (some ⟨G, 0, none⟩) m wait.length) (wait' := leftTo (fun _ p => p.2.2) wait wait.length) (by
          have hwt := hdev.wait
          rw [hX] at hwt
          have hm2 : (leftTo (fun _ p => p.2.2) wait wait.length).length = m := by rw [← hleft, List.length_take]; omega
          rw [← hleft, ← pends_take, show (X.take m).length = m by rw [hleft]; exact hm2]
          exact hwt.cut hmk) (fun k hk => hdev.wd k (by simpa [Value.ownBlock] using hk))
        have hof : Only (foot L (.slice (some ⟨G, 0, none⟩) wait.length c)) w (wr.setCell ⟨L.D, 2, none⟩ (.slice (some ⟨G, 0, none⟩) m wait.length)) := honly.setCell _ _ (.inl (.inl rfl))
        have cD2 := hdev.c2
        have fD2 := hdev.f2
        have HD := Lib.hid hfin
        have HO := Lib.hid hof; clear hfin hof hdev honly hrest hleft
        go_wp2
        go_end0
        exact ⟨rfl, _, HD.out, HO.out, fun k hk => hk⟩

set_option maxRecDepth 100000 in
set_option maxHeartbeats 1600000 in
theorem settle73 {w : World} {B : Nat} {L : Places} {wv : Value} {kept now : List Int} {wait : List P3} (h : Dev w B L wv kept now wait) (hn : L.n ≤ 1000000) (hw : wait.length ≤ 1000000) (hat : ∀ p ∈ wait, p.1 < L.n) (kb : Nat) (keep : List Bool) (hkl : keep.length ≤ 1000000) (hkeep : KeepAt (foot L wv) w kb keep) :
    Calls Try.prog 71 #[.pointer (some ⟨L.D, 0, none⟩), .func (.func 73) #[] #[.pointer (some ⟨kb, 0, none⟩)]] w fun e w' => e = .returned (.tuple #[]) ∧ ∃ wv', Dev w' B L wv' (keepTo (fun i _ => keeps keep i) wait kept wait.length) now (leftTo (fun i _ => keeps keep i) wait wait.length) ∧ Only (foot L wv) w w' ∧ ∀ k, wv'.ownBlock = some k → wv.ownBlock = some k := by
  obtain ⟨i0, hi, iz0, iz1, iz2⟩ := info_parts info85
  have c2 := h.c2
  obtain ⟨g, c, rfl⟩ := h.wait.shape
  have hsz := h.kb
  have H := Lib.hid h
  have HAT := Lib.hid hat
  clear h hat
  go_enter Try.func71, Try.ntmps71
  go_wp2_with fail
  rcases H.out.wait.2 with ⟨hv, h0⟩ | ⟨G, cap, cur, hv, hBG, hg, hcap, hmax, hcs, htake⟩
  · simp only [Value.slice.injEq] at hv
    obtain ⟨rfl, -, rfl⟩ := hv
    have hnil : wait = [] := List.eq_nil_of_length_eq_zero h0
    subst hnil
    go_region
    have hdev0 := H.out.drew
    have cD := hdev0.c2
    have fD := hdev0.f2
    have hfin := hdev0.waits (wv' := .slice none 0 0) (wait' := []) (wide_nil _ _ _ _) (fun k hk => by simp [Value.ownBlock] at hk)
    have HF := Lib.hid hfin; clear hdev0 hfin
    go_wp2_with fail
    go_loopw [4, 22] (fun r i wr => r = .slice none 0 0 ∧ i = .int .i64 0 ∧ wr = w.drew) (fun _ i _ => 0)
    case atStart => exact ⟨rfl, rfl, rfl⟩
    case round =>
      obtain ⟨rfl, rfl, rfl⟩ := hrel
      go_wp2_with fail
      go_end0
      exact ⟨rfl, _, HF.out, ((Only.refl _ w).drew).setCell _ _ (.inl (.inl rfl)), fun k hk => hk⟩
  · simp only [Value.slice.injEq] at hv
    obtain ⟨rfl, -, rfl⟩ := hv
    clear hg hcs htake
    go_region
    have hdev0 := H.out.drew
    have honly0 : Only (foot L (.slice (some ⟨G, 0, none⟩) wait.length c)) w w.drew := (Only.refl _ w).drew
    have cD := hdev0.c2
    have HD0 := Lib.hid hdev0; have HO0 := Lib.hid honly0; clear hdev0 honly0
    go_wp2_with fail
    go_loopw [4, 22] (fun r i wr => ∃ k m : Nat, ∃ X : List P3, k ≤ wait.length ∧ m ≤ k ∧ i = .int .i64 k ∧ r = .slice (some ⟨G, 0, none⟩) m wait.length ∧ Dev wr B L (.slice (some ⟨G, 0, none⟩) wait.length c) (keepTo (fun i _ => keeps keep i) wait kept k) now X ∧
      X.length = wait.length ∧ X.take m = leftTo (fun i _ => keeps keep i) wait k ∧ (∀ j, k ≤ j → X[j]? = wait[j]?) ∧ Only (foot L (.slice (some ⟨G, 0, none⟩) wait.length c)) w wr) (fun _ i _ => wait.length - (intOf i).toNat)
    case atStart => exact ⟨0, 0, wait, by omega, by omega, rfl, rfl, HD0.out, rfl, by simp [leftTo], fun _ _ => rfl, HO0.out⟩
    case round =>
      obtain ⟨k, m, X, hk, hmk, rfl, rfl, hdev, hX, hleft, hrest, honly⟩ := hrel
      by_cases hlt : k < wait.length
      · obtain ⟨p, hp⟩ : ∃ p, wait[k]? = some p := ⟨wait[k], by simp [hlt]⟩
        have hXk : X[k]? = some p := by rw [hrest k (Nat.le_refl _)]; exact hp
        have hwt := hdev.wait
        rw [hX] at hwt
        obtain ⟨hg0, hg1, hg2⟩ := pends_get hXk
        have e0 := hwt.cell hg0
        have e1 := hwt.cell hg1
        have e2 := hwt.cell hg2
        have hdk := hdev.kb
        have hGlt := (hwt.lt G rfl).2
        have haL := HAT.out p (List.mem_of_getElem? hp)
        obtain ⟨a, x, fl⟩ := p
        dsimp only at e0 e1 e2 haL
        obtain ⟨n1, n2, n3⟩ := hdev.wd G rfl
        have HDEV := Lib.hid hdev; have HO := Lib.hid honly; have HP := Lib.hid hp; have HX := Lib.hid hX; have HLE := Lib.hid hleft; have HRE := Lib.hid hrest
        clear hdev honly hp hX hleft hrest hwt hg0 hg1 hg2 hXk
        have hcall := keeps_any kb keep k a x fl (wr.alloc (.cells #[.int .i64 (a : Int), .int .u64 x, .bool fl] 85)) hkl (hkeep.only (HO.out.alloc _))
        have hcall2 : Calls Try.prog 73 #[.int .i64 k, .agg #[.int .i64 a, .int .u64 x, .bool fl], .pointer (some ⟨kb, 0, none⟩)] (wr.alloc (.cells #[.int .i64 (a : Int), .int .u64 x, .bool fl] 85)) fun e w2 => e = .returned (.bool (keeps keep k)) ∧
            Dev w2 B L (.slice (some ⟨G, 0, none⟩) wait.length c) (keepTo (fun i _ => keeps keep i) wait kept k) now X ∧ w2.cell? ⟨wr.heap.size, 0, none⟩ = some (.int .i64 (a : Int)) ∧ w2.cell? ⟨wr.heap.size, 1, none⟩ = some (.int .u64 x) ∧ w2.cell? ⟨wr.heap.size, 2, none⟩ = some (.bool fl) ∧
            wr.heap.size + 1 ≤ w2.heap.size ∧ Only (foot L (.slice (some ⟨G, 0, none⟩) wait.length c)) w w2 := by
          refine hcall.mono ?_
          rintro e w2 ⟨rfl, hb2⟩
          have hon2 : Only (fun _ => False) wr w2 := ((Only.refl _ wr).alloc _).trans (Only.of_below hb2)
          refine ⟨rfl, HDEV.out.only hon2 (fun _ _ h => h), ?_, ?_, ?_, by simpa using hb2.size, HO.out.trans (hon2.mono (fun _ h => h.elim))⟩
          · rw [hb2.cell (p := ⟨wr.heap.size, 0, none⟩) (by simp)]; simp
          · rw [hb2.cell (p := ⟨wr.heap.size, 1, none⟩) (by simp)]; simp
          · rw [hb2.cell (p := ⟨wr.heap.size, 2, none⟩) (by simp)]; simp
        have HC := Lib.hid hcall2; clear hcall hcall2
        obtain ⟨q, hq⟩ : ∃ q, keeps keep k = q := ⟨_, rfl⟩
        rw [hq] at HC
        have HQ := Lib.hid hq; clear hq
        cases q with
        | true =>
          go_wp2_with (go_at_call 73; refine HC.out.mono ?_; rintro e w2 ⟨rfl, hdev2, v0, v1, v2, hs2, hono⟩)
          have HON := Lib.hid hono; clear hono e0 e1 e2
          obtain ⟨y, hy⟩ : ∃ y, (keepTo (fun i _ => keeps keep i) wait kept k)[a]? = some y := ⟨_, List.getElem?_eq_getElem (by rw [hdev2.keptLen]; exact haL)⟩
          have k0 := hdev2.c0
          have ky := hdev2.kept.cell (words_get hy)
          have kf := hdev2.kept.free (j := a)
          have hset := hdev2.keptSet a x haL
          rw [← keepTo_hit (is := fun i _ => keeps keep i) (p := (a, x, fl)) HP.out HQ.out] at hset
          have HS := Lib.hid hset.drew; clear hset hdev2 hy
          go_region
          go_wp2
          exact ⟨⟨k + 1, m, X, by omega, by omega, by go_num, rfl, HS.out, HX.out, by rw [leftTo_hit (is := fun i _ => keeps keep i) (p := (a, x, fl)) HP.out HQ.out]; exact HLE.out, fun j hj => HRE.out j (by omega), (HON.out.setCell ⟨L.K, a, none⟩ _ (.inl (.inr (.inl rfl)))).drew⟩, by simp [intOf]; omega⟩
        | false =>
          obtain ⟨hwide, hM, hXL⟩ : (∀ w2 : World, Dev w2 B L (.slice (some ⟨G, 0, none⟩) wait.length c) (keepTo (fun i _ => keeps keep i) wait kept k) now X → wide w2 B 85 3 (.slice (some ⟨G, 0, none⟩) wait.length c) wait.length (pends X)) ∧ m < wait.length ∧ X.length = wait.length :=
            ⟨fun w2 h => by have := h.wait; rw [HX.out] at this; exact this, by omega, HX.out⟩
          have HW := Lib.hid hwide; have HXL := Lib.hid hXL; clear hwide hXL
          go_wp2_with (first
            | (go_at_call 73; refine HC.out.mono ?_; rintro e w2 ⟨rfl, hdev2, v0, v1, v2, hs2, hono⟩; have HON := Lib.hid hono; clear hono; have HD2 := Lib.hid hdev2; clear hdev2)
            | (at_builtin; refine wpList_append_inplace _ rfl _ _ 80 rfl B 85 i0 Try.underlying80 hi iz1 G wait.length c m X (a, x, fl) HXL.out hM rfl ((HW.out _ HD2.out).alloc _) ⟨w2.heap.size, 0, none⟩ 1 rfl ?c1 ?_))
          case c1 => exact news3 _ _ _ _ _
          intro w3 hw3 hgrow
          have hd3 := (HD2.out.only (S := fun _ => False) ((Only.refl _ w2).alloc _) (fun _ _ h => h)).waitRow hgrow hw3 (by rw [List.length_set]; exact HXL.out)
          have ho3 : Only (foot L (.slice (some ⟨G, 0, none⟩) wait.length c)) w w3 := (HON.out.alloc _).grown hgrow (fun k hk => .inl (.inr (.inr (.inr (by simpa [Value.ownBlock] using hk)))))
          rw [← keepTo_miss (is := fun i _ => keeps keep i) (p := (a, x, fl)) HP.out HQ.out] at hd3
          have HD3 := Lib.hid hd3; have HO3 := Lib.hid ho3; clear hd3 ho3 hw3 hgrow
          go_wp2
          exact ⟨⟨k + 1, m + 1, X.set m (a, x, fl), by omega, by omega, by go_num, rfl, HD3.out, by rw [List.length_set]; exact HX.out, by rw [leftTo_miss (is := fun i _ => keeps keep i) (p := (a, x, fl)) HP.out HQ.out, take_set_snoc _ _ _ (by rw [HX.out]; omega), HLE.out],
            fun j hj => by rw [List.getElem?_set_ne (by omega)]; exact HRE.out j (by omega), HO3.out⟩, by simp [intOf]; omega⟩
      · have hke : k = wait.length := by omega
        subst hke
        have hfin := hdev.waits (wv' := .slice (some ⟨G, 0, none⟩) m wait.length) (wait' := leftTo (fun i _ => keeps keep i) wait wait.length) (by
          have hwt := hdev.wait
          rw [hX] at hwt
          have hm2 : (leftTo (fun i _ => keeps keep i) wait wait.length).length = m := by rw [← hleft, List.length_take]; omega
          rw [← hleft, ← pends_take, show (X.take m).length = m by rw [hleft]; exact hm2]
          exact hwt.cut hmk) (fun k hk => hdev.wd k (by simpa [Value.ownBlock] using hk))
        have hof : Only (foot L (.slice (some ⟨G, 0, none⟩) wait.length c)) w (wr.setCell ⟨L.D, 2, none⟩ (.slice (some ⟨G, 0, none⟩) m wait.length)) := honly.setCell _ _ (.inl (.inl rfl))
        have cD2 := hdev.c2
        have fD2 := hdev.f2
        have HD := Lib.hid hfin
        have HO := Lib.hid hof; clear hfin hof hdev honly hrest hleft
        go_wp2
        go_end0
        exact ⟨rfl, _, HD.out, HO.out, fun k hk => hk⟩
end Go.Proofs.Ythjdpcgkkmfodaa.Pend
