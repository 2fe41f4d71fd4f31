/-
  Closed calls that the function 'works' of this seat's laws makes, and 'works' itself: each is run by the kernel over the evaluator GE (the texts YtgpcjdhlijompaaE0 to YtgpcjdhlijompaaE21): what it answers. No condition.
-/
import Derived.Test.YtgpcjdhlijompaaRows
import Derived.Test.YtgpcjdhlijompaaE21
set_option autoImplicit false
namespace Go.Proofs.Ytgpcjdhlijompaa.wk
theorem mixed : Try.prog.follows .mixedOrders = true := Try.checked.mixed
def ew : GE.Ent := ⟨14, [], [], ⟨.bool true, [], []⟩⟩
set_option maxRecDepth 1000000 in
theorem ew_run : (GE.evT Try.prog GE.noT 1000000).run ew.f ew.args ew.heap = some ew.rr := by kernel_rfl
theorem ew_ok : GE.EntOK Try.prog ew := ⟨GE.noT, 1000000, GE.noT_ok, ew_run⟩
/-- works alone -/
def wtab : GE.Tab := GE.tabL [ew]
theorem wtab_ok : GE.TabOK Try.prog wtab := GE.tab_all mixed (.cons ew_ok .nil)
/-- works, and the closed calls -/
def atab : GE.Tab := GE.tabL [ew]
theorem atab_ok : GE.TabOK Try.prog atab := GE.tab_all mixed (.cons ew_ok .nil)
end Go.Proofs.Ytgpcjdhlijompaa.wk
