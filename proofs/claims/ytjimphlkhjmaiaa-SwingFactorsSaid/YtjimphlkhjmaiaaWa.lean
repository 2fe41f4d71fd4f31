/-
  Closed calls of this seat's code, each run by the kernel over the evaluator GE: what it answers. No condition.
-/
import Derived.Test.YtjimphlkhjmaiaaT4
set_option autoImplicit false
namespace Go.Proofs.Ytjimphlkhjmaiaa.wk
open Go.GE
def wa_e0 : GE.Ent := ⟨27, [.int .i64 (1)], [], ⟨.tuple #[.slice (some ⟨0, 0, none⟩) 2 2, .int .i64 (0)], [.cells [.string ⟨#[48]⟩, .string ⟨#[49]⟩] 1 true true], []⟩⟩
set_option maxRecDepth 1000000 in
theorem wa_e0_run : (GE.evT Try.prog sh.libT 1000000).run wa_e0.f wa_e0.args wa_e0.heap = some wa_e0.rr := by kernel_rfl
theorem wa_e0_ok : GE.EntOK Try.prog wa_e0 := ⟨sh.libT, 1000000, sh.libT_ok, wa_e0_run⟩
def wa_e1 : GE.Ent := ⟨27, [.int .i64 (2)], [], ⟨.tuple #[.slice (some ⟨0, 0, none⟩) 1 1, .int .i64 (0)], [.cells [.string ⟨#[48, 49]⟩] 1 true true], []⟩⟩
set_option maxRecDepth 1000000 in
theorem wa_e1_run : (GE.evT Try.prog sh.libT 1000000).run wa_e1.f wa_e1.args wa_e1.heap = some wa_e1.rr := by kernel_rfl
theorem wa_e1_ok : GE.EntOK Try.prog wa_e1 := ⟨sh.libT, 1000000, sh.libT_ok, wa_e1_run⟩
def wa_e2 : GE.Ent := ⟨27, [.int .i64 (3)], [], ⟨.tuple #[.slice (some ⟨0, 0, none⟩) 2 2, .int .i64 (0)], [.cells [.string ⟨#[48, 48, 49]⟩, .string ⟨#[48, 49, 49]⟩] 1 true true], []⟩⟩
set_option maxRecDepth 1000000 in
theorem wa_e2_run : (GE.evT Try.prog sh.libT 1000000).run wa_e2.f wa_e2.args wa_e2.heap = some wa_e2.rr := by kernel_rfl
theorem wa_e2_ok : GE.EntOK Try.prog wa_e2 := ⟨sh.libT, 1000000, sh.libT_ok, wa_e2_run⟩
def wa_e3 : GE.Ent := ⟨27, [.int .i64 (4)], [], ⟨.tuple #[.slice (some ⟨0, 0, none⟩) 3 3, .int .i64 (0)], [.cells [.string ⟨#[48, 48, 48, 49]⟩, .string ⟨#[48, 48, 49, 49]⟩, .string ⟨#[48, 49, 49, 49]⟩] 1 true true], []⟩⟩
set_option maxRecDepth 1000000 in
theorem wa_e3_run : (GE.evT Try.prog sh.libT 1000000).run wa_e3.f wa_e3.args wa_e3.heap = some wa_e3.rr := by kernel_rfl
theorem wa_e3_ok : GE.EntOK Try.prog wa_e3 := ⟨sh.libT, 1000000, sh.libT_ok, wa_e3_run⟩
def wa_e4 : GE.Ent := ⟨27, [.int .i64 (5)], [], ⟨.tuple #[.slice (some ⟨0, 0, none⟩) 6 6, .int .i64 (0)], [.cells [.string ⟨#[48, 48, 48, 48, 49]⟩, .string ⟨#[48, 48, 48, 49, 49]⟩, .string ⟨#[48, 48, 49, 48, 49]⟩, .string ⟨#[48, 48, 49, 49, 49]⟩, .string ⟨#[48, 49, 48, 49, 49]⟩, .string ⟨#[48, 49, 49, 49, 49]⟩] 1 true true], []⟩⟩
set_option maxRecDepth 1000000 in
theorem wa_e4_run : (GE.evT Try.prog sh.libT 1000000).run wa_e4.f wa_e4.args wa_e4.heap = some wa_e4.rr := by kernel_rfl
theorem wa_e4_ok : GE.EntOK Try.prog wa_e4 := ⟨sh.libT, 1000000, sh.libT_ok, wa_e4_run⟩
def wa_e5 : GE.Ent := ⟨27, [.int .i64 (6)], [], ⟨.tuple #[.slice (some ⟨0, 0, none⟩) 9 9, .int .i64 (0)], [.cells [.string ⟨#[48, 48, 48, 48, 48, 49]⟩, .string ⟨#[48, 48, 48, 48, 49, 49]⟩, .string ⟨#[48, 48, 48, 49, 48, 49]⟩, .string ⟨#[48, 48, 48, 49, 49, 49]⟩, .string ⟨#[48, 48, 49, 48, 49, 49]⟩, .string ⟨#[48, 48, 49, 49, 48, 49]⟩, .string ⟨#[48, 48, 49, 49, 49, 49]⟩, .string ⟨#[48, 49, 48, 49, 49, 49]⟩, .string ⟨#[48, 49, 49, 49, 49, 49]⟩] 1 true true], []⟩⟩
set_option maxRecDepth 1000000 in
theorem wa_e5_run : (GE.evT Try.prog sh.libT 1000000).run wa_e5.f wa_e5.args wa_e5.heap = some wa_e5.rr := by kernel_rfl
theorem wa_e5_ok : GE.EntOK Try.prog wa_e5 := ⟨sh.libT, 1000000, sh.libT_ok, wa_e5_run⟩
def wa_e6 : GE.Ent := ⟨29, [.int .i64 (1)], [], ⟨.tuple #[.string ⟨#[48, 49]⟩, .int .i64 (0)], [], []⟩⟩
set_option maxRecDepth 1000000 in
theorem wa_e6_run : (GE.evT Try.prog sh.libT 1000000).run wa_e6.f wa_e6.args wa_e6.heap = some wa_e6.rr := by kernel_rfl
theorem wa_e6_ok : GE.EntOK Try.prog wa_e6 := ⟨sh.libT, 1000000, sh.libT_ok, wa_e6_run⟩
def wa_e7 : GE.Ent := ⟨29, [.int .i64 (2)], [], ⟨.tuple #[.string ⟨#[48, 48, 49, 49]⟩, .int .i64 (0)], [], []⟩⟩
set_option maxRecDepth 1000000 in
theorem wa_e7_run : (GE.evT Try.prog sh.libT 1000000).run wa_e7.f wa_e7.args wa_e7.heap = some wa_e7.rr := by kernel_rfl
theorem wa_e7_ok : GE.EntOK Try.prog wa_e7 := ⟨sh.libT, 1000000, sh.libT_ok, wa_e7_run⟩
def wa_e8 : GE.Ent := ⟨29, [.int .i64 (3)], [], ⟨.tuple #[.string ⟨#[48, 48, 48, 49, 48, 49, 49, 49]⟩, .int .i64 (0)], [], []⟩⟩
set_option maxRecDepth 1000000 in
theorem wa_e8_run : (GE.evT Try.prog sh.libT 1000000).run wa_e8.f wa_e8.args wa_e8.heap = some wa_e8.rr := by kernel_rfl
theorem wa_e8_ok : GE.EntOK Try.prog wa_e8 := ⟨sh.libT, 1000000, sh.libT_ok, wa_e8_run⟩
def wa_e9 : GE.Ent := ⟨29, [.int .i64 (4)], [], ⟨.tuple #[.string ⟨#[48, 48, 48, 48, 49, 48, 48, 49, 49, 48, 49, 48, 49, 49, 49, 49]⟩, .int .i64 (0)], [], []⟩⟩
set_option maxRecDepth 1000000 in
theorem wa_e9_run : (GE.evT Try.prog sh.libT 1000000).run wa_e9.f wa_e9.args wa_e9.heap = some wa_e9.rr := by kernel_rfl
theorem wa_e9_ok : GE.EntOK Try.prog wa_e9 := ⟨sh.libT, 1000000, sh.libT_ok, wa_e9_run⟩
def wa_e10 : GE.Ent := ⟨29, [.int .i64 (5)], [], ⟨.tuple #[.string ⟨#[48, 48, 48, 48, 48, 49, 48, 48, 48, 49, 49, 48, 48, 49, 48, 49, 48, 48, 49, 49, 49, 48, 49, 48, 49, 49, 48, 49, 49, 49, 49, 49]⟩, .int .i64 (0)], [], []⟩⟩
set_option maxRecDepth 1000000 in
theorem wa_e10_run : (GE.evT Try.prog sh.libT 1000000).run wa_e10.f wa_e10.args wa_e10.heap = some wa_e10.rr := by kernel_rfl
theorem wa_e10_ok : GE.EntOK Try.prog wa_e10 := ⟨sh.libT, 1000000, sh.libT_ok, wa_e10_run⟩
def wa_e11 : GE.Ent := ⟨29, [.int .i64 (6)], [], ⟨.tuple #[.string ⟨#[48, 48, 48, 48, 48, 48, 49, 48, 48, 48, 48, 49, 49, 48, 48, 48, 49, 48, 49, 48, 48, 48, 49, 49, 49, 48, 48, 49, 48, 48, 49, 48, 49, 49, 48, 48, 49, 49, 48, 49, 48, 48, 49, 49, 49, 49, 48, 49, 48, 49, 48, 49, 49, 49, 48, 49, 49, 48, 49, 49, 49, 49, 49, 49]⟩, .int .i64 (0)], [], []⟩⟩
set_option maxRecDepth 1000000 in
theorem wa_e11_run : (GE.evT Try.prog sh.libT 1000000).run wa_e11.f wa_e11.args wa_e11.heap = some wa_e11.rr := by kernel_rfl
theorem wa_e11_ok : GE.EntOK Try.prog wa_e11 := ⟨sh.libT, 1000000, sh.libT_ok, wa_e11_run⟩
def wa_e12 : GE.Ent := ⟨31, [.int .i64 (1)], [], ⟨.tuple #[.int .i64 (2), .int .i64 (0)], [], []⟩⟩
set_option maxRecDepth 1000000 in
theorem wa_e12_run : (GE.evT Try.prog sh.libT 1000000).run wa_e12.f wa_e12.args wa_e12.heap = some wa_e12.rr := by kernel_rfl
theorem wa_e12_ok : GE.EntOK Try.prog wa_e12 := ⟨sh.libT, 1000000, sh.libT_ok, wa_e12_run⟩
def wa_e13 : GE.Ent := ⟨31, [.int .i64 (2)], [], ⟨.tuple #[.int .i64 (3), .int .i64 (0)], [], []⟩⟩
set_option maxRecDepth 1000000 in
theorem wa_e13_run : (GE.evT Try.prog sh.libT 1000000).run wa_e13.f wa_e13.args wa_e13.heap = some wa_e13.rr := by kernel_rfl
theorem wa_e13_ok : GE.EntOK Try.prog wa_e13 := ⟨sh.libT, 1000000, sh.libT_ok, wa_e13_run⟩
def wa_e14 : GE.Ent := ⟨31, [.int .i64 (3)], [], ⟨.tuple #[.int .i64 (4), .int .i64 (0)], [], []⟩⟩
set_option maxRecDepth 1000000 in
theorem wa_e14_run : (GE.evT Try.prog sh.libT 1000000).run wa_e14.f wa_e14.args wa_e14.heap = some wa_e14.rr := by kernel_rfl
theorem wa_e14_ok : GE.EntOK Try.prog wa_e14 := ⟨sh.libT, 1000000, sh.libT_ok, wa_e14_run⟩
def wa_e15 : GE.Ent := ⟨31, [.int .i64 (4)], [], ⟨.tuple #[.int .i64 (6), .int .i64 (0)], [], []⟩⟩
set_option maxRecDepth 1000000 in
theorem wa_e15_run : (GE.evT Try.prog sh.libT 1000000).run wa_e15.f wa_e15.args wa_e15.heap = some wa_e15.rr := by kernel_rfl
theorem wa_e15_ok : GE.EntOK Try.prog wa_e15 := ⟨sh.libT, 1000000, sh.libT_ok, wa_e15_run⟩
def wa_e16 : GE.Ent := ⟨31, [.int .i64 (5)], [], ⟨.tuple #[.int .i64 (8), .int .i64 (0)], [], []⟩⟩
set_option maxRecDepth 1000000 in
theorem wa_e16_run : (GE.evT Try.prog sh.libT 1000000).run wa_e16.f wa_e16.args wa_e16.heap = some wa_e16.rr := by kernel_rfl
theorem wa_e16_ok : GE.EntOK Try.prog wa_e16 := ⟨sh.libT, 1000000, sh.libT_ok, wa_e16_run⟩
def wa_e17 : GE.Ent := ⟨31, [.int .i64 (6)], [], ⟨.tuple #[.int .i64 (14), .int .i64 (0)], [], []⟩⟩
set_option maxRecDepth 1000000 in
theorem wa_e17_run : (GE.evT Try.prog sh.libT 1000000).run wa_e17.f wa_e17.args wa_e17.heap = some wa_e17.rr := by kernel_rfl
theorem wa_e17_ok : GE.EntOK Try.prog wa_e17 := ⟨sh.libT, 1000000, sh.libT_ok, wa_e17_run⟩
def wa_e18 : GE.Ent := ⟨31, [.int .i64 (7)], [], ⟨.tuple #[.int .i64 (20), .int .i64 (0)], [], []⟩⟩
set_option maxRecDepth 1000000 in
theorem wa_e18_run : (GE.evT Try.prog sh.libT 1000000).run wa_e18.f wa_e18.args wa_e18.heap = some wa_e18.rr := by kernel_rfl
theorem wa_e18_ok : GE.EntOK Try.prog wa_e18 := ⟨sh.libT, 1000000, sh.libT_ok, wa_e18_run⟩
def wa_e19 : GE.Ent := ⟨31, [.int .i64 (8)], [], ⟨.tuple #[.int .i64 (36), .int .i64 (0)], [], []⟩⟩
set_option maxRecDepth 1000000 in
theorem wa_e19_run : (GE.evT Try.prog sh.libT 1000000).run wa_e19.f wa_e19.args wa_e19.heap = some wa_e19.rr := by kernel_rfl
theorem wa_e19_ok : GE.EntOK Try.prog wa_e19 := ⟨sh.libT, 1000000, sh.libT_ok, wa_e19_run⟩
def wa_e20 : GE.Ent := ⟨31, [.int .i64 (9)], [], ⟨.tuple #[.int .i64 (60), .int .i64 (0)], [], []⟩⟩
set_option maxRecDepth 1000000 in
theorem wa_e20_run : (GE.evT Try.prog sh.libT 1000000).run wa_e20.f wa_e20.args wa_e20.heap = some wa_e20.rr := by kernel_rfl
theorem wa_e20_ok : GE.EntOK Try.prog wa_e20 := ⟨sh.libT, 1000000, sh.libT_ok, wa_e20_run⟩
def ew : GE.Ent := ⟨14, [], [], ⟨.bool true, [], []⟩⟩
set_option maxRecDepth 1000000 in
theorem ew_run : (GE.evT Try.prog sh.libT 1000000).run ew.f ew.args ew.heap = some ew.rr := by kernel_rfl
theorem ew_ok : GE.EntOK Try.prog ew := ⟨sh.libT, 1000000, sh.libT_ok, ew_run⟩
def tabWa : GE.Tab := sh.tabO [wa_e0, wa_e1, wa_e2, wa_e3, wa_e4, wa_e5, wa_e6, wa_e7, wa_e8, wa_e9, wa_e10, wa_e11, wa_e12, wa_e13, wa_e14, wa_e15, wa_e16, wa_e17, wa_e18, wa_e19, wa_e20, ew] sh.libT
theorem tabWa_ok : GE.TabOK Try.prog tabWa := sh.tabO_ok sh.mixed (.cons wa_e0_ok (.cons wa_e1_ok (.cons wa_e2_ok (.cons wa_e3_ok (.cons wa_e4_ok (.cons wa_e5_ok (.cons wa_e6_ok (.cons wa_e7_ok (.cons wa_e8_ok (.cons wa_e9_ok (.cons wa_e10_ok (.cons wa_e11_ok (.cons wa_e12_ok (.cons wa_e13_ok (.cons wa_e14_ok (.cons wa_e15_ok (.cons wa_e16_ok (.cons wa_e17_ok (.cons wa_e18_ok (.cons wa_e19_ok (.cons wa_e20_ok (.cons ew_ok .nil)))))))))))))))))))))) sh.libT_ok
end Go.Proofs.Ytjimphlkhjmaiaa.wk
