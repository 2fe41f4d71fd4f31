/-
  Closed calls that the function 'works' of this seat's laws makes, and 'works' itself: each is run by the kernel over the evaluator GE (the texts YtkmompbfcgjgmaaE0 to YtkmompbfcgjgmaaE21): what it answers. No condition.
-/
import Derived.Test.YtkmompbfcgjgmaaRows
import Derived.Test.YtkmompbfcgjgmaaE21
set_option autoImplicit false
namespace Go.Proofs.Ytkmompbfcgjgmaa.wk
theorem mixed : Try.prog.follows .mixedOrders = true := Try.checked.mixed
def e0 : GE.Ent := ⟨13, [.slice (some ⟨0, 0, none⟩) 4 4, .agg #[.int .i64 (2), .int .i64 (1)]], [.cells [.int .i64 (-6), .int .i64 (11), .int .i64 (-6), .int .i64 (1)] 1 true true], ⟨.tuple #[.int .i64 (0), .int .i64 (0)], [], []⟩⟩
set_option maxRecDepth 1000000 in
theorem e0_run : (GE.evT Try.prog GE.noT 1000000).run e0.f e0.args e0.heap = some e0.rr := by kernel_rfl
theorem e0_ok : GE.EntOK Try.prog e0 := ⟨GE.noT, 1000000, GE.noT_ok, e0_run⟩
def e1 : GE.Ent := ⟨15, [.slice (some ⟨0, 0, none⟩) 3 3], [.cells [.int .i64 (-4), .int .i64 (0), .int .i64 (2)] 1 true true], ⟨.tuple #[.slice (some ⟨1, 0, none⟩) 3 3, .int .i64 (0)], [.cells [.int .i64 (-2), .int .i64 (0), .int .i64 (1)] 1 true true], []⟩⟩
set_option maxRecDepth 1000000 in
theorem e1_run : (GE.evT Try.prog GE.noT 1000000).run e1.f e1.args e1.heap = some e1.rr := by kernel_rfl
theorem e1_ok : GE.EntOK Try.prog e1 := ⟨GE.noT, 1000000, GE.noT_ok, e1_run⟩
def e2 : GE.Ent := ⟨23, [.slice (some ⟨0, 0, none⟩) 3 3, .agg #[.int .i64 (-3), .int .i64 (1)]], [.cells [.int .i64 (-2), .int .i64 (0), .int .i64 (1)] 1 true true], ⟨.tuple #[.int .i64 (2), .int .i64 (0)], [], []⟩⟩
set_option maxRecDepth 1000000 in
theorem e2_run : (GE.evT Try.prog GE.noT 1000000).run e2.f e2.args e2.heap = some e2.rr := by kernel_rfl
theorem e2_ok : GE.EntOK Try.prog e2 := ⟨GE.noT, 1000000, GE.noT_ok, e2_run⟩
def e3 : GE.Ent := ⟨23, [.slice (some ⟨0, 0, none⟩) 3 3, .agg #[.int .i64 (3), .int .i64 (1)]], [.cells [.int .i64 (-2), .int .i64 (0), .int .i64 (1)] 1 true true], ⟨.tuple #[.int .i64 (0), .int .i64 (0)], [], []⟩⟩
set_option maxRecDepth 1000000 in
theorem e3_run : (GE.evT Try.prog GE.noT 1000000).run e3.f e3.args e3.heap = some e3.rr := by kernel_rfl
theorem e3_ok : GE.EntOK Try.prog e3 := ⟨GE.noT, 1000000, GE.noT_ok, e3_run⟩
def e4 : GE.Ent := ⟨25, [.slice (some ⟨0, 0, none⟩) 4 4, .agg #[.int .i64 (1), .int .i64 (1)], .agg #[.int .i64 (3), .int .i64 (1)]], [.cells [.int .i64 (-6), .int .i64 (11), .int .i64 (-6), .int .i64 (1)] 1 true true], ⟨.tuple #[.int .i64 (2), .int .i64 (0)], [], []⟩⟩
set_option maxRecDepth 1000000 in
theorem e4_run : (GE.evT Try.prog GE.noT 1000000).run e4.f e4.args e4.heap = some e4.rr := by kernel_rfl
theorem e4_ok : GE.EntOK Try.prog e4 := ⟨GE.noT, 1000000, GE.noT_ok, e4_run⟩
def e5 : GE.Ent := ⟨13, [.slice (some ⟨0, 0, none⟩) 4 4, .agg #[.int .i64 (5), .int .i64 (2)]], [.cells [.int .i64 (-6), .int .i64 (11), .int .i64 (-6), .int .i64 (1)] 1 true true], ⟨.tuple #[.int .i64 (-1), .int .i64 (0)], [], []⟩⟩
set_option maxRecDepth 1000000 in
theorem e5_run : (GE.evT Try.prog GE.noT 1000000).run e5.f e5.args e5.heap = some e5.rr := by kernel_rfl
theorem e5_ok : GE.EntOK Try.prog e5 := ⟨GE.noT, 1000000, GE.noT_ok, e5_run⟩
def e6 : GE.Ent := ⟨15, [.slice (some ⟨0, 0, none⟩) 3 3], [.cells [.int .i64 (4), .int .i64 (-4), .int .i64 (1)] 1 true true], ⟨.tuple #[.slice (some ⟨1, 0, none⟩) 2 2, .int .i64 (0)], [.cells [.int .i64 (-2), .int .i64 (1)] 1 true true], []⟩⟩
set_option maxRecDepth 1000000 in
theorem e6_run : (GE.evT Try.prog GE.noT 1000000).run e6.f e6.args e6.heap = some e6.rr := by kernel_rfl
theorem e6_ok : GE.EntOK Try.prog e6 := ⟨GE.noT, 1000000, GE.noT_ok, e6_run⟩
def e7 : GE.Ent := ⟨17, [.slice (some ⟨0, 0, none⟩) 3 3], [.cells [.int .i64 (-2), .int .i64 (0), .int .i64 (1)] 1 true true], ⟨.tuple #[.slice (some ⟨1, 0, none⟩) 3 3, .int .i64 (0)], [.cells [.slice (some ⟨2, 0, none⟩) 3 3, .slice (some ⟨3, 0, none⟩) 2 2, .slice (some ⟨4, 0, none⟩) 1 1] 1 false true, .cells [.int .i64 (-2), .int .i64 (0), .int .i64 (1)] 1 true true, .cells [.int .i64 (0), .int .i64 (1)] 1 true true, .cells [.int .i64 (1)] 1 true true], []⟩⟩
set_option maxRecDepth 1000000 in
theorem e7_run : (GE.evT Try.prog GE.noT 1000000).run e7.f e7.args e7.heap = some e7.rr := by kernel_rfl
theorem e7_ok : GE.EntOK Try.prog e7 := ⟨GE.noT, 1000000, GE.noT_ok, e7_run⟩
def e8 : GE.Ent := ⟨23, [.slice (some ⟨0, 0, none⟩) 3 3, .agg #[.int .i64 (0), .int .i64 (1)]], [.cells [.int .i64 (-2), .int .i64 (0), .int .i64 (1)] 1 true true], ⟨.tuple #[.int .i64 (1), .int .i64 (0)], [], []⟩⟩
set_option maxRecDepth 1000000 in
theorem e8_run : (GE.evT Try.prog GE.noT 1000000).run e8.f e8.args e8.heap = some e8.rr := by kernel_rfl
theorem e8_ok : GE.EntOK Try.prog e8 := ⟨GE.noT, 1000000, GE.noT_ok, e8_run⟩
def e9 : GE.Ent := ⟨25, [.slice (some ⟨0, 0, none⟩) 4 4, .agg #[.int .i64 (0), .int .i64 (1)], .agg #[.int .i64 (5), .int .i64 (2)]], [.cells [.int .i64 (-6), .int .i64 (11), .int .i64 (-6), .int .i64 (1)] 1 true true], ⟨.tuple #[.int .i64 (2), .int .i64 (0)], [], []⟩⟩
set_option maxRecDepth 1000000 in
theorem e9_run : (GE.evT Try.prog GE.noT 1000000).run e9.f e9.args e9.heap = some e9.rr := by kernel_rfl
theorem e9_ok : GE.EntOK Try.prog e9 := ⟨GE.noT, 1000000, GE.noT_ok, e9_run⟩
def e10 : GE.Ent := ⟨29, [.slice (some ⟨0, 0, none⟩) 3 3], [.cells [.int .i64 (-2), .int .i64 (0), .int .i64 (1)] 1 true true], ⟨.tuple #[.slice (some ⟨1, 0, none⟩) 2 2, .int .i64 (0)], [.cells [.int .i64 (-141), .int .i64 (1), .int .i64 (142), .int .i64 (1)] 2 true true], []⟩⟩
set_option maxRecDepth 1000000 in
theorem e10_run : (GE.evT Try.prog GE.noT 1000000).run e10.f e10.args e10.heap = some e10.rr := by kernel_rfl
theorem e10_ok : GE.EntOK Try.prog e10 := ⟨GE.noT, 1000000, GE.noT_ok, e10_run⟩
def e11 : GE.Ent := ⟨29, [.slice (some ⟨0, 0, none⟩) 3 3], [.cells [.int .i64 (4), .int .i64 (-4), .int .i64 (1)] 1 true true], ⟨.tuple #[.slice (some ⟨1, 0, none⟩) 1 1, .int .i64 (0)], [.cells [.int .i64 (200), .int .i64 (2)] 2 true true], []⟩⟩
set_option maxRecDepth 1000000 in
theorem e11_run : (GE.evT Try.prog GE.noT 1000000).run e11.f e11.args e11.heap = some e11.rr := by kernel_rfl
theorem e11_ok : GE.EntOK Try.prog e11 := ⟨GE.noT, 1000000, GE.noT_ok, e11_run⟩
def e12 : GE.Ent := ⟨27, [.slice (some ⟨0, 0, none⟩) 3 3, .agg #[.int .i64 (-1), .int .i64 (1)], .agg #[.int .i64 (1), .int .i64 (1)]], [.cells [.int .i64 (1), .int .i64 (0), .int .i64 (1)] 1 true true], ⟨.tuple #[.int .i64 (2), .int .i64 (0)], [], []⟩⟩
set_option maxRecDepth 1000000 in
theorem e12_run : (GE.evT Try.prog GE.noT 1000000).run e12.f e12.args e12.heap = some e12.rr := by kernel_rfl
theorem e12_ok : GE.EntOK Try.prog e12 := ⟨GE.noT, 1000000, GE.noT_ok, e12_run⟩
def tab1 : GE.Tab := GE.tabL [e0, e1, e2, e3, e4, e5, e6, e7, e8, e9, e10, e11, e12]
theorem tab1_ok : GE.TabOK Try.prog tab1 := GE.tab_all mixed (.cons e0_ok (.cons e1_ok (.cons e2_ok (.cons e3_ok (.cons e4_ok (.cons e5_ok (.cons e6_ok (.cons e7_ok (.cons e8_ok (.cons e9_ok (.cons e10_ok (.cons e11_ok (.cons e12_ok .nil)))))))))))))
def ew : GE.Ent := ⟨12, [], [], ⟨.bool true, [], []⟩⟩
set_option maxRecDepth 1000000 in
theorem ew_run : (GE.evT Try.prog tab1 1000000).run ew.f ew.args ew.heap = some ew.rr := by kernel_rfl
theorem ew_ok : GE.EntOK Try.prog ew := ⟨tab1, 1000000, tab1_ok, ew_run⟩
/-- works alone -/
def wtab : GE.Tab := GE.tabL [ew]
theorem wtab_ok : GE.TabOK Try.prog wtab := GE.tab_all mixed (.cons ew_ok .nil)
/-- works, and the closed calls -/
def atab : GE.Tab := GE.tabL [ew, e0, e1, e2, e3, e4, e5, e6, e7, e8, e9, e10, e11, e12]
theorem atab_ok : GE.TabOK Try.prog atab := GE.tab_all mixed (.cons ew_ok (.cons e0_ok (.cons e1_ok (.cons e2_ok (.cons e3_ok (.cons e4_ok (.cons e5_ok (.cons e6_ok (.cons e7_ok (.cons e8_ok (.cons e9_ok (.cons e10_ok (.cons e11_ok (.cons e12_ok .nil))))))))))))))
end Go.Proofs.Ytkmompbfcgjgmaa.wk
