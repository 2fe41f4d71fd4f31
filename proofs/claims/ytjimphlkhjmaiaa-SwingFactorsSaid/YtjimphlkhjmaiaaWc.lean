/-
  Closed calls of this seat's code, each run by the kernel over the evaluator GE: what it answers. No condition.
-/
import Derived.Test.YtjimphlkhjmaiaaWb
set_option autoImplicit false
namespace Go.Proofs.Ytjimphlkhjmaiaa.wk
open Go.GE
def wc_e0 : GE.Ent := ⟨50, [.int .i64 (1)], [], ⟨.slice (some ⟨0, 0, none⟩) 2 2, [.cells [.string ⟨#[48]⟩, .string ⟨#[49]⟩] 1 true true], []⟩⟩
set_option maxRecDepth 1000000 in
theorem wc_e0_run : (GE.evT Try.prog tabWb 1000000).run wc_e0.f wc_e0.args wc_e0.heap = some wc_e0.rr := by kernel_rfl
theorem wc_e0_ok : GE.EntOK Try.prog wc_e0 := ⟨tabWb, 1000000, tabWb_ok, wc_e0_run⟩
def wc_e1 : GE.Ent := ⟨50, [.int .i64 (2)], [], ⟨.slice (some ⟨0, 0, none⟩) 1 1, [.cells [.string ⟨#[48, 49]⟩] 1 true true], []⟩⟩
set_option maxRecDepth 1000000 in
theorem wc_e1_run : (GE.evT Try.prog tabWb 1000000).run wc_e1.f wc_e1.args wc_e1.heap = some wc_e1.rr := by kernel_rfl
theorem wc_e1_ok : GE.EntOK Try.prog wc_e1 := ⟨tabWb, 1000000, tabWb_ok, wc_e1_run⟩
def wc_e2 : GE.Ent := ⟨50, [.int .i64 (3)], [], ⟨.slice (some ⟨0, 0, none⟩) 2 2, [.cells [.string ⟨#[48, 48, 49]⟩, .string ⟨#[48, 49, 49]⟩] 1 true true], []⟩⟩
set_option maxRecDepth 1000000 in
theorem wc_e2_run : (GE.evT Try.prog tabWb 1000000).run wc_e2.f wc_e2.args wc_e2.heap = some wc_e2.rr := by kernel_rfl
theorem wc_e2_ok : GE.EntOK Try.prog wc_e2 := ⟨tabWb, 1000000, tabWb_ok, wc_e2_run⟩
def wc_e3 : GE.Ent := ⟨50, [.int .i64 (4)], [], ⟨.slice (some ⟨0, 0, none⟩) 3 3, [.cells [.string ⟨#[48, 48, 48, 49]⟩, .string ⟨#[48, 48, 49, 49]⟩, .string ⟨#[48, 49, 49, 49]⟩] 1 true true], []⟩⟩
set_option maxRecDepth 1000000 in
theorem wc_e3_run : (GE.evT Try.prog tabWb 1000000).run wc_e3.f wc_e3.args wc_e3.heap = some wc_e3.rr := by kernel_rfl
theorem wc_e3_ok : GE.EntOK Try.prog wc_e3 := ⟨tabWb, 1000000, tabWb_ok, wc_e3_run⟩
def wc_e4 : GE.Ent := ⟨50, [.int .i64 (5)], [], ⟨.slice (some ⟨0, 0, none⟩) 6 6, [.cells [.string ⟨#[48, 48, 48, 48, 49]⟩, .string ⟨#[48, 48, 48, 49, 49]⟩, .string ⟨#[48, 48, 49, 48, 49]⟩, .string ⟨#[48, 48, 49, 49, 49]⟩, .string ⟨#[48, 49, 48, 49, 49]⟩, .string ⟨#[48, 49, 49, 49, 49]⟩] 1 true true], []⟩⟩
set_option maxRecDepth 1000000 in
theorem wc_e4_run : (GE.evT Try.prog tabWb 1000000).run wc_e4.f wc_e4.args wc_e4.heap = some wc_e4.rr := by kernel_rfl
theorem wc_e4_ok : GE.EntOK Try.prog wc_e4 := ⟨tabWb, 1000000, tabWb_ok, wc_e4_run⟩
def wc_e5 : GE.Ent := ⟨50, [.int .i64 (6)], [], ⟨.slice (some ⟨0, 0, none⟩) 9 9, [.cells [.string ⟨#[48, 48, 48, 48, 48, 49]⟩, .string ⟨#[48, 48, 48, 48, 49, 49]⟩, .string ⟨#[48, 48, 48, 49, 48, 49]⟩, .string ⟨#[48, 48, 48, 49, 49, 49]⟩, .string ⟨#[48, 48, 49, 48, 49, 49]⟩, .string ⟨#[48, 48, 49, 49, 48, 49]⟩, .string ⟨#[48, 48, 49, 49, 49, 49]⟩, .string ⟨#[48, 49, 48, 49, 49, 49]⟩, .string ⟨#[48, 49, 49, 49, 49, 49]⟩] 1 true true], []⟩⟩
set_option maxRecDepth 1000000 in
theorem wc_e5_run : (GE.evT Try.prog tabWb 1000000).run wc_e5.f wc_e5.args wc_e5.heap = some wc_e5.rr := by kernel_rfl
theorem wc_e5_ok : GE.EntOK Try.prog wc_e5 := ⟨tabWb, 1000000, tabWb_ok, wc_e5_run⟩
def tabWc : GE.Tab := sh.tabO [wc_e0, wc_e1, wc_e2, wc_e3, wc_e4, wc_e5] tabWb
theorem tabWc_ok : GE.TabOK Try.prog tabWc := sh.tabO_ok sh.mixed (.cons wc_e0_ok (.cons wc_e1_ok (.cons wc_e2_ok (.cons wc_e3_ok (.cons wc_e4_ok (.cons wc_e5_ok .nil)))))) tabWb_ok
end Go.Proofs.Ytjimphlkhjmaiaa.wk
