/- TopPended's own function, walked. -/
import Derived.Test.YthjdpcgkkmfodaaPendP
import Derived.Deep.RegionWith
namespace Go.Proofs.Ythjdpcgkkmfodaa.Pend
open Go.RowKit Go.Proofs.Ythjdpcgkkmfodaa.Base
set_option linter.unusedVariables false
set_option linter.unusedSimpArgs false

def known : List Nat := [0, 3, 5, 4, 0, 0, 0, 3, 6, 6, 0, 0, 0, 9, 7, 7, 0, 0, 0, 8, 1, 4, 1, 0, 6, 0, 0]
theorem known_any (b b2 : Nat) (W : World) (cur : Array Value) (t t2 : TypeId) (hcur : cur.toList = known.map fun (x : Nat) => Value.int .u8 (x : Int)) (h1 : W.heap[b]? = some (.cells cur t (0, 0))) (h2 : W.heap[b2]? = some (.cells #[.bool false, .bool true] t2 (0, 0))) :
    Calls Try.prog 25 #[.int .u8 1, .slice (some ⟨b, 0, none⟩) 9 9, .slice (some ⟨b2, 0, none⟩) 2 2] W (New W (.bool true)) := by
  have hadd : ∀ b j : Nat, (⟨b, 0, none⟩ : Addr).add j = ⟨b, j, none⟩ := by intro b j; unfold Addr.add; split <;> simp_all
  refine pended_any 1 9 9 (some ⟨b, 0, none⟩) known (some ⟨b2, 0, none⟩) [false, true] 2 W (by decide) (by decide) (by decide) (fun h => by cases h) rfl (by decide) ?_ ⟨(fun h => by cases h), (fun h => by cases h), ?_, ?_⟩
  · intro ad e j x hx
    simp only [Option.some.injEq] at e
    subst e
    rw [hadd, cell_of_row W b j cur t (0, 0) h1, ← Array.getElem?_toList, hcur, List.getElem?_map, hx]; rfl
  · intro a e _
    simp only [Option.some.injEq] at e
    subst e
    exact lt_of_block h2
  · intro a e j y hy
    simp only [Option.some.injEq] at e
    subst e
    rw [hadd, cell_of_row W b2 j _ t2 (0, 0) h2]
    match j, hy with
    | 0, hy => simp at hy; subst hy; rfl
    | 1, hy => simp at hy; subst hy; rfl

set_option maxRecDepth 100000 in
set_option maxHeartbeats 4000000 in
theorem head_any (lines len cap klen kcap n : Nat) (ao ko : Option Addr) (X : List Nat) (keep : List Bool) (w : World) (hlines : lines ≤ 255) (hnl : n ≤ len) (hlc : len ≤ cap) (hm : cap ≤ maxLen) (hn : n ≤ 150)
    (hmin : (if (150 : Int) < (len : Int) then 150 else (len : Int)) = (n : Int)) (hkn : keep.length ≤ 100) (hknl : keep.length ≤ klen) (hklc : klen ≤ kcap) (hkm : kcap ≤ maxLen) (hmin2 : (if (100 : Int) < (klen : Int) then 100 else (klen : Int)) = (keep.length : Int))
    (hao : ao = none → n = 0) (hX : X.length = n * 3) (hXb : ∀ x ∈ X, x ≤ 255) (hc : ∀ ad, ao = some ad → ∀ (j x : Nat), X[j]? = some x → w.cell? (ad.add j) = some (.int .u8 (x : Int)))
    (hko : (ko = none → keep = []) ∧ (ko = none → kcap = 0) ∧ (∀ a, ko = some a → 0 < keep.length → a.block < w.heap.size) ∧ ∀ a, ko = some a → ∀ j y, keep[j]? = some y → w.cell? (a.add j) = some (.bool y)) :
    Calls Try.prog 5 #[.int .u8 lines, .slice ao len cap, .slice ko klen kcap] w (New w (.bool true)) := by
  have hcall : ∀ W : World, Below w.heap.size w W → Calls Try.prog 25 #[.int .u8 lines, .slice ao n cap, .slice ko keep.length kcap] W (New W (.bool true)) := by
    intro W hb
    refine pended_any lines n cap ao X ko keep kcap W hlines (by omega) (by omega) hao hX hXb (fun ad h j x hx => ?_) ⟨hko.1, hko.2.1, fun a h h0 => Nat.lt_of_lt_of_le (hko.2.2.1 a h h0) hb.size, fun a h j y hy => ?_⟩
    · have h0 := hc ad h j x hx
      rw [hb.cell (World.block_lt_of_cell? w _ h0)]; exact h0
    · have h0 := hko.2.2.2 a h j y hy
      rw [hb.cell (World.block_lt_of_cell? w _ h0)]; exact h0
  have HCALL := Lib.hid hcall
  clear hcall hc hko hX hXb hao
  unfold maxLen at hm hkm
  have hm1 : len ≤ 9223372036854775807 := by omega
  have hm2 : klen ≤ 9223372036854775807 := by omega
  go_enter Try.func5, Try.ntmps5
  go_wp2_with fail
  obtain ⟨W1, hW1⟩ : ∃ W1, w.alloc (.cells ((known.map fun (x : Nat) => Value.int .u8 (x : Int)).toArray) 62) = W1 := ⟨_, rfl⟩
  have h1 : W1.heap[w.heap.size]? = some (.cells ((known.map fun (x : Nat) => Value.int .u8 (x : Int)).toArray) 62 (0, 0)) := by rw [← hW1]; exact heap_alloc_new w _
  have hb1 : Below w.heap.size w W1 := by rw [← hW1]; exact (Below.refl _ _).alloc (Nat.le_refl _) _
  have hlt1 : w.heap.size < W1.heap.size := lt_of_block h1
  have H1 := Lib.hid h1; have HB1 := Lib.hid hb1
  change Code.wp _ _ _ _ (w.alloc (.cells ((known.map fun (x : Nat) => Value.int .u8 (x : Int)).toArray) 62))
  rw [hW1]
  clear h1 hb1 hW1
  have HK := Lib.hid (fun W h1 h2 => known_any w.heap.size W1.heap.size W ((known.map fun (x : Nat) => Value.int .u8 (x : Int)).toArray) 62 4 rfl h1 h2)
  go_region_with (first
    | (go_at_call_of 25 (Value.int .u8 (lines : Int)); refine (HCALL.out _ ?_).mono ?_; exact HBX.out; rintro e w3 ⟨rfl, hb3⟩; have HB3 := Lib.hid (newT HBX.out hb3); clear hb3; dsimp only)
    | (go_at_call 25; refine (HK.out _ ?_ ?_).mono ?_; exact (Below.heap_alloc W1 _ _ hlt1).trans H1.out; exact heap_alloc_new W1 _; rintro e w2 ⟨rfl, hb2⟩; have HBX := Lib.hid (HB1.out.trans ((((Below.refl _ W1).alloc (Nat.le_refl _) _).drew.trans (hb2.mono (by simp))).mono (by omega))); clear hb2; dsimp only))
  all_goals (go_wp2_with fail; go_ret; exact ⟨rfl, HB3.out⟩)
end Go.Proofs.Ythjdpcgkkmfodaa.Pend
