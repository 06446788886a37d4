/- TopPended: the loop's body, taken out of the translation. -/
import Derived.Test.YthjdpcgkkmfodaaPendJ
import Derived.Deep.DeepCutAuto
import Derived.Deep.CutBlock
namespace Go.Proofs.Ythjdpcgkkmfodaa.Pend
def firstLoop : Code → Option Code
  | .loop c => some c
  | .seq a b => match firstLoop a with
    | some c => some c
    | none => firstLoop b
  | .block _ c => firstLoop c
  | .scope c => firstLoop c
  | .cond _ a b => match firstLoop a with
    | some c => some c
    | none => firstLoop b
  | _ => none
noncomputable def body25 : Code := (Try.f25.body.bind firstLoop).getD .skip

def headIs (id : Nat) : Code → Bool
  | .block i _ => i == id
  | .seq _ b => headIs id b
  | _ => false
def after (id : Nat) : Code → Option Code
  | .seq a b => if headIs id a then some b else match after id a with
    | some c => some c
    | none => after id b
  | .block _ c => after id c
  | .scope c => after id c
  | .loop c => after id c
  | _ => none
noncomputable def rest25 : Code := (after 2 body25).getD .skip
theorem add_more (ad : Addr) (k j : Nat) (hj : 0 < j) : ad.add (k + j) = ⟨(ad.add k).block, (ad.add k).off + j, none⟩ := by
  unfold Addr.add
  rw [if_neg (by omega)]
  by_cases h : k = 0
  · rw [if_pos h, h, Nat.zero_add]
  · rw [if_neg h, Nat.add_assoc]
/-- Behind q rounds. -/
def Fin (W0 : World) (m : Nat) (L : Places) (kb kc q : Nat) (v : Value) (w : World) : Prop := ∃ wv kept now wait, Hand (8 * m) q kept now wait ∧ St W0 m L kb kc v wv kept now wait kept wait w
end Go.Proofs.Ythjdpcgkkmfodaa.Pend
