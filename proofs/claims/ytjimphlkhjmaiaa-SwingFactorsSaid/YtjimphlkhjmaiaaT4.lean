/-
  A table with closed calls ahead. No condition.
-/
import Derived.Test.YtjimphlkhjmaiaaT3
import Derived.KernelRfl
set_option autoImplicit false
namespace Go.Proofs.Ytjimphlkhjmaiaa.sh
open Go.GE
def tabO (l : List Ent) (T : Tab) : Tab := ⟨fun f a h => match tabR l f a h with | some r => some r | none => T.run f a h, fun _ _ => none⟩
theorem tabO_ok {P : Program} (hm : P.follows .mixedOrders = true) {l : List Ent} {T : Tab} (h : AllOK P l) (hT : TabOK P T) : TabOK P (tabO l T) := by
  intro f args h' rr m w cargs he hr hl
  simp only [tabO] at he
  split at he
  · rename_i r h1
    cases he
    exact tab_all hm h f args h' _ m w cargs h1 hr hl
  · exact hT f args h' rr m w cargs he hr hl
end Go.Proofs.Ytjimphlkhjmaiaa.sh
