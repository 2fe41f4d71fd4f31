/-
  The table of this seat: closed calls, the function 'works', and contracts of Go's library. No condition.
-/
import Derived.Test.YtjimphlkhjmaiaaWa
import Derived.Test.YtjimphlkhjmaiaaWd
import Derived.Test.YtjimphlkhjmaiaaRows
set_option autoImplicit false
namespace Go.Proofs.Ytjimphlkhjmaiaa.wk
open Go.GE
theorem mixed : Try.prog.follows .mixedOrders = true := sh.mixed
def wtab : GE.Tab := sh.tabO [ew, wa_e0, wa_e1, wa_e2, wa_e3, wa_e4, wa_e5, wa_e6, wa_e7, wa_e8, wa_e9, wa_e10, wa_e11, wa_e12, wa_e13, wa_e14, wa_e15, wa_e16, wa_e17, wa_e18, wa_e19, wa_e20] tabWd
theorem wtab_ok : GE.TabOK Try.prog wtab := sh.tabO_ok sh.mixed (.cons ew_ok (.cons wa_e0_ok (.cons wa_e1_ok (.cons wa_e2_ok (.cons wa_e3_ok (.cons wa_e4_ok (.cons wa_e5_ok (.cons wa_e6_ok (.cons wa_e7_ok (.cons wa_e8_ok (.cons wa_e9_ok (.cons wa_e10_ok (.cons wa_e11_ok (.cons wa_e12_ok (.cons wa_e13_ok (.cons wa_e14_ok (.cons wa_e15_ok (.cons wa_e16_ok (.cons wa_e17_ok (.cons wa_e18_ok (.cons wa_e19_ok (.cons wa_e20_ok .nil)))))))))))))))))))))) tabWd_ok
def atab : GE.Tab := wtab
theorem atab_ok : GE.TabOK Try.prog atab := wtab_ok
end Go.Proofs.Ytjimphlkhjmaiaa.wk
