/- TopDescribed: the loop's body, taken out of the translation. -/
import Derived.Test.YthjdpcgkkmfodaaDescF
import Derived.Deep.DeepCutAuto
import Derived.Deep.CutBlock
namespace Go.Proofs.Ythjdpcgkkmfodaa.Desc
def firstLoop : Code → Option Code
  | .loop c => some c
  | .seq a b => match firstLoop a with
    | some c => some c
    | none => firstLoop b
  | .block _ c => firstLoop c
  | .scope c => firstLoop c
  | .cond _ a b => match firstLoop a with
    | some c => some c
    | none => firstLoop b
  | _ => none
noncomputable def body4 : Code := (Try.f4.body.bind firstLoop).getD .skip

def headIs (id : Nat) : Code → Bool
  | .block i _ => i == id
  | .seq _ b => headIs id b
  | _ => false
def after (id : Nat) : Code → Option Code
  | .seq a b => if headIs id a then some b else match after id a with
    | some c => some c
    | none => after id b
  | .block _ c => after id c
  | .scope c => after id c
  | .loop c => after id c
  | _ => none
noncomputable def rest4 : Code := (after 2 body4).getD .skip
end Go.Proofs.Ythjdpcgkkmfodaa.Desc
