/-
  Closed calls of this seat's code, each run by the kernel over the evaluator GE: what it answers. No condition.
-/
import Derived.Test.YtjimphlkhjmaiaaWc
set_option autoImplicit false
namespace Go.Proofs.Ytjimphlkhjmaiaa.wk
open Go.GE
def wd_e0 : GE.Ent := ⟨28, [.int .i64 (1)], [], ⟨.tuple #[.slice (some ⟨0, 0, none⟩) 2 2, .int .i64 (0)], [.cells [.string ⟨#[48]⟩, .string ⟨#[49]⟩] 1 true true], []⟩⟩
set_option maxRecDepth 1000000 in
theorem wd_e0_run : (GE.evT Try.prog tabWc 1000000).run wd_e0.f wd_e0.args wd_e0.heap = some wd_e0.rr := by kernel_rfl
theorem wd_e0_ok : GE.EntOK Try.prog wd_e0 := ⟨tabWc, 1000000, tabWc_ok, wd_e0_run⟩
def wd_e1 : GE.Ent := ⟨28, [.int .i64 (2)], [], ⟨.tuple #[.slice (some ⟨0, 0, none⟩) 1 1, .int .i64 (0)], [.cells [.string ⟨#[48, 49]⟩] 1 true true], []⟩⟩
set_option maxRecDepth 1000000 in
theorem wd_e1_run : (GE.evT Try.prog tabWc 1000000).run wd_e1.f wd_e1.args wd_e1.heap = some wd_e1.rr := by kernel_rfl
theorem wd_e1_ok : GE.EntOK Try.prog wd_e1 := ⟨tabWc, 1000000, tabWc_ok, wd_e1_run⟩
def wd_e2 : GE.Ent := ⟨28, [.int .i64 (3)], [], ⟨.tuple #[.slice (some ⟨0, 0, none⟩) 2 2, .int .i64 (0)], [.cells [.string ⟨#[48, 48, 49]⟩, .string ⟨#[48, 49, 49]⟩] 1 true true], []⟩⟩
set_option maxRecDepth 1000000 in
theorem wd_e2_run : (GE.evT Try.prog tabWc 1000000).run wd_e2.f wd_e2.args wd_e2.heap = some wd_e2.rr := by kernel_rfl
theorem wd_e2_ok : GE.EntOK Try.prog wd_e2 := ⟨tabWc, 1000000, tabWc_ok, wd_e2_run⟩
def wd_e3 : GE.Ent := ⟨28, [.int .i64 (4)], [], ⟨.tuple #[.slice (some ⟨0, 0, none⟩) 3 3, .int .i64 (0)], [.cells [.string ⟨#[48, 48, 48, 49]⟩, .string ⟨#[48, 48, 49, 49]⟩, .string ⟨#[48, 49, 49, 49]⟩] 1 true true], []⟩⟩
set_option maxRecDepth 1000000 in
theorem wd_e3_run : (GE.evT Try.prog tabWc 1000000).run wd_e3.f wd_e3.args wd_e3.heap = some wd_e3.rr := by kernel_rfl
theorem wd_e3_ok : GE.EntOK Try.prog wd_e3 := ⟨tabWc, 1000000, tabWc_ok, wd_e3_run⟩
def wd_e4 : GE.Ent := ⟨28, [.int .i64 (5)], [], ⟨.tuple #[.slice (some ⟨0, 0, none⟩) 6 6, .int .i64 (0)], [.cells [.string ⟨#[48, 48, 48, 48, 49]⟩, .string ⟨#[48, 48, 48, 49, 49]⟩, .string ⟨#[48, 48, 49, 48, 49]⟩, .string ⟨#[48, 48, 49, 49, 49]⟩, .string ⟨#[48, 49, 48, 49, 49]⟩, .string ⟨#[48, 49, 49, 49, 49]⟩] 1 true true], []⟩⟩
set_option maxRecDepth 1000000 in
theorem wd_e4_run : (GE.evT Try.prog tabWc 1000000).run wd_e4.f wd_e4.args wd_e4.heap = some wd_e4.rr := by kernel_rfl
theorem wd_e4_ok : GE.EntOK Try.prog wd_e4 := ⟨tabWc, 1000000, tabWc_ok, wd_e4_run⟩
def wd_e5 : GE.Ent := ⟨28, [.int .i64 (6)], [], ⟨.tuple #[.slice (some ⟨0, 0, none⟩) 9 9, .int .i64 (0)], [.cells [.string ⟨#[48, 48, 48, 48, 48, 49]⟩, .string ⟨#[48, 48, 48, 48, 49, 49]⟩, .string ⟨#[48, 48, 48, 49, 48, 49]⟩, .string ⟨#[48, 48, 48, 49, 49, 49]⟩, .string ⟨#[48, 48, 49, 48, 49, 49]⟩, .string ⟨#[48, 48, 49, 49, 48, 49]⟩, .string ⟨#[48, 48, 49, 49, 49, 49]⟩, .string ⟨#[48, 49, 48, 49, 49, 49]⟩, .string ⟨#[48, 49, 49, 49, 49, 49]⟩] 1 true true], []⟩⟩
set_option maxRecDepth 1000000 in
theorem wd_e5_run : (GE.evT Try.prog tabWc 1000000).run wd_e5.f wd_e5.args wd_e5.heap = some wd_e5.rr := by kernel_rfl
theorem wd_e5_ok : GE.EntOK Try.prog wd_e5 := ⟨tabWc, 1000000, tabWc_ok, wd_e5_run⟩
def wd_e6 : GE.Ent := ⟨30, [.int .i64 (1)], [], ⟨.tuple #[.string ⟨#[48, 49]⟩, .int .i64 (0)], [], []⟩⟩
set_option maxRecDepth 1000000 in
theorem wd_e6_run : (GE.evT Try.prog tabWc 1000000).run wd_e6.f wd_e6.args wd_e6.heap = some wd_e6.rr := by kernel_rfl
theorem wd_e6_ok : GE.EntOK Try.prog wd_e6 := ⟨tabWc, 1000000, tabWc_ok, wd_e6_run⟩
def wd_e7 : GE.Ent := ⟨30, [.int .i64 (2)], [], ⟨.tuple #[.string ⟨#[48, 48, 49, 49]⟩, .int .i64 (0)], [], []⟩⟩
set_option maxRecDepth 1000000 in
theorem wd_e7_run : (GE.evT Try.prog tabWc 1000000).run wd_e7.f wd_e7.args wd_e7.heap = some wd_e7.rr := by kernel_rfl
theorem wd_e7_ok : GE.EntOK Try.prog wd_e7 := ⟨tabWc, 1000000, tabWc_ok, wd_e7_run⟩
def wd_e8 : GE.Ent := ⟨30, [.int .i64 (3)], [], ⟨.tuple #[.string ⟨#[48, 48, 48, 49, 48, 49, 49, 49]⟩, .int .i64 (0)], [], []⟩⟩
set_option maxRecDepth 1000000 in
theorem wd_e8_run : (GE.evT Try.prog tabWc 1000000).run wd_e8.f wd_e8.args wd_e8.heap = some wd_e8.rr := by kernel_rfl
theorem wd_e8_ok : GE.EntOK Try.prog wd_e8 := ⟨tabWc, 1000000, tabWc_ok, wd_e8_run⟩
def wd_e9 : GE.Ent := ⟨30, [.int .i64 (4)], [], ⟨.tuple #[.string ⟨#[48, 48, 48, 48, 49, 48, 48, 49, 49, 48, 49, 48, 49, 49, 49, 49]⟩, .int .i64 (0)], [], []⟩⟩
set_option maxRecDepth 1000000 in
theorem wd_e9_run : (GE.evT Try.prog tabWc 1000000).run wd_e9.f wd_e9.args wd_e9.heap = some wd_e9.rr := by kernel_rfl
theorem wd_e9_ok : GE.EntOK Try.prog wd_e9 := ⟨tabWc, 1000000, tabWc_ok, wd_e9_run⟩
def wd_e10 : GE.Ent := ⟨30, [.int .i64 (5)], [], ⟨.tuple #[.string ⟨#[48, 48, 48, 48, 48, 49, 48, 48, 48, 49, 49, 48, 48, 49, 48, 49, 48, 48, 49, 49, 49, 48, 49, 48, 49, 49, 48, 49, 49, 49, 49, 49]⟩, .int .i64 (0)], [], []⟩⟩
set_option maxRecDepth 1000000 in
theorem wd_e10_run : (GE.evT Try.prog tabWc 1000000).run wd_e10.f wd_e10.args wd_e10.heap = some wd_e10.rr := by kernel_rfl
theorem wd_e10_ok : GE.EntOK Try.prog wd_e10 := ⟨tabWc, 1000000, tabWc_ok, wd_e10_run⟩
def wd_e11 : GE.Ent := ⟨30, [.int .i64 (6)], [], ⟨.tuple #[.string ⟨#[48, 48, 48, 48, 48, 48, 49, 48, 48, 48, 48, 49, 49, 48, 48, 48, 49, 48, 49, 48, 48, 48, 49, 49, 49, 48, 48, 49, 48, 48, 49, 48, 49, 49, 48, 48, 49, 49, 48, 49, 48, 48, 49, 49, 49, 49, 48, 49, 48, 49, 48, 49, 49, 49, 48, 49, 49, 48, 49, 49, 49, 49, 49, 49]⟩, .int .i64 (0)], [], []⟩⟩
set_option maxRecDepth 1000000 in
theorem wd_e11_run : (GE.evT Try.prog tabWc 1000000).run wd_e11.f wd_e11.args wd_e11.heap = some wd_e11.rr := by kernel_rfl
theorem wd_e11_ok : GE.EntOK Try.prog wd_e11 := ⟨tabWc, 1000000, tabWc_ok, wd_e11_run⟩
def tabWd : GE.Tab := sh.tabO [wd_e0, wd_e1, wd_e2, wd_e3, wd_e4, wd_e5, wd_e6, wd_e7, wd_e8, wd_e9, wd_e10, wd_e11] tabWc
theorem tabWd_ok : GE.TabOK Try.prog tabWd := sh.tabO_ok sh.mixed (.cons wd_e0_ok (.cons wd_e1_ok (.cons wd_e2_ok (.cons wd_e3_ok (.cons wd_e4_ok (.cons wd_e5_ok (.cons wd_e6_ok (.cons wd_e7_ok (.cons wd_e8_ok (.cons wd_e9_ok (.cons wd_e10_ok (.cons wd_e11_ok .nil)))))))))))) tabWc_ok
end Go.Proofs.Ytjimphlkhjmaiaa.wk
