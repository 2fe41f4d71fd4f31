/-
  Closed calls of this seat's code, each run by the kernel over the evaluator GE: what it answers. No condition.
-/
import Derived.Test.YtjimphlkhjmaiaaT4
set_option autoImplicit false
namespace Go.Proofs.Ytjimphlkhjmaiaa.wk
open Go.GE
def wb_e0 : GE.Ent := ⟨44, [.string ⟨#[48, 48, 48, 48, 48, 48]⟩], [], ⟨.bool false, [], []⟩⟩
set_option maxRecDepth 1000000 in
theorem wb_e0_run : (GE.evT Try.prog sh.libT 1000000).run wb_e0.f wb_e0.args wb_e0.heap = some wb_e0.rr := by kernel_rfl
theorem wb_e0_ok : GE.EntOK Try.prog wb_e0 := ⟨sh.libT, 1000000, sh.libT_ok, wb_e0_run⟩
def wb_e1 : GE.Ent := ⟨44, [.string ⟨#[48, 48, 48, 48, 48, 49]⟩], [], ⟨.bool true, [], []⟩⟩
set_option maxRecDepth 1000000 in
theorem wb_e1_run : (GE.evT Try.prog sh.libT 1000000).run wb_e1.f wb_e1.args wb_e1.heap = some wb_e1.rr := by kernel_rfl
theorem wb_e1_ok : GE.EntOK Try.prog wb_e1 := ⟨sh.libT, 1000000, sh.libT_ok, wb_e1_run⟩
def wb_e2 : GE.Ent := ⟨44, [.string ⟨#[48, 48, 48, 48, 49, 48]⟩], [], ⟨.bool false, [], []⟩⟩
set_option maxRecDepth 1000000 in
theorem wb_e2_run : (GE.evT Try.prog sh.libT 1000000).run wb_e2.f wb_e2.args wb_e2.heap = some wb_e2.rr := by kernel_rfl
theorem wb_e2_ok : GE.EntOK Try.prog wb_e2 := ⟨sh.libT, 1000000, sh.libT_ok, wb_e2_run⟩
def wb_e3 : GE.Ent := ⟨44, [.string ⟨#[48, 48, 48, 48, 49, 49]⟩], [], ⟨.bool true, [], []⟩⟩
set_option maxRecDepth 1000000 in
theorem wb_e3_run : (GE.evT Try.prog sh.libT 1000000).run wb_e3.f wb_e3.args wb_e3.heap = some wb_e3.rr := by kernel_rfl
theorem wb_e3_ok : GE.EntOK Try.prog wb_e3 := ⟨sh.libT, 1000000, sh.libT_ok, wb_e3_run⟩
def wb_e4 : GE.Ent := ⟨44, [.string ⟨#[48, 48, 48, 49, 48, 48]⟩], [], ⟨.bool false, [], []⟩⟩
set_option maxRecDepth 1000000 in
theorem wb_e4_run : (GE.evT Try.prog sh.libT 1000000).run wb_e4.f wb_e4.args wb_e4.heap = some wb_e4.rr := by kernel_rfl
theorem wb_e4_ok : GE.EntOK Try.prog wb_e4 := ⟨sh.libT, 1000000, sh.libT_ok, wb_e4_run⟩
def wb_e5 : GE.Ent := ⟨44, [.string ⟨#[48, 48, 48, 49, 48, 49]⟩], [], ⟨.bool true, [], []⟩⟩
set_option maxRecDepth 1000000 in
theorem wb_e5_run : (GE.evT Try.prog sh.libT 1000000).run wb_e5.f wb_e5.args wb_e5.heap = some wb_e5.rr := by kernel_rfl
theorem wb_e5_ok : GE.EntOK Try.prog wb_e5 := ⟨sh.libT, 1000000, sh.libT_ok, wb_e5_run⟩
def wb_e6 : GE.Ent := ⟨44, [.string ⟨#[48, 48, 48, 49, 49, 48]⟩], [], ⟨.bool false, [], []⟩⟩
set_option maxRecDepth 1000000 in
theorem wb_e6_run : (GE.evT Try.prog sh.libT 1000000).run wb_e6.f wb_e6.args wb_e6.heap = some wb_e6.rr := by kernel_rfl
theorem wb_e6_ok : GE.EntOK Try.prog wb_e6 := ⟨sh.libT, 1000000, sh.libT_ok, wb_e6_run⟩
def wb_e7 : GE.Ent := ⟨44, [.string ⟨#[48, 48, 48, 49, 49, 49]⟩], [], ⟨.bool true, [], []⟩⟩
set_option maxRecDepth 1000000 in
theorem wb_e7_run : (GE.evT Try.prog sh.libT 1000000).run wb_e7.f wb_e7.args wb_e7.heap = some wb_e7.rr := by kernel_rfl
theorem wb_e7_ok : GE.EntOK Try.prog wb_e7 := ⟨sh.libT, 1000000, sh.libT_ok, wb_e7_run⟩
def wb_e8 : GE.Ent := ⟨44, [.string ⟨#[48, 48, 49, 48, 48, 48]⟩], [], ⟨.bool false, [], []⟩⟩
set_option maxRecDepth 1000000 in
theorem wb_e8_run : (GE.evT Try.prog sh.libT 1000000).run wb_e8.f wb_e8.args wb_e8.heap = some wb_e8.rr := by kernel_rfl
theorem wb_e8_ok : GE.EntOK Try.prog wb_e8 := ⟨sh.libT, 1000000, sh.libT_ok, wb_e8_run⟩
def wb_e9 : GE.Ent := ⟨44, [.string ⟨#[48, 48, 49, 48, 48, 49]⟩], [], ⟨.bool false, [], []⟩⟩
set_option maxRecDepth 1000000 in
theorem wb_e9_run : (GE.evT Try.prog sh.libT 1000000).run wb_e9.f wb_e9.args wb_e9.heap = some wb_e9.rr := by kernel_rfl
theorem wb_e9_ok : GE.EntOK Try.prog wb_e9 := ⟨sh.libT, 1000000, sh.libT_ok, wb_e9_run⟩
def wb_e10 : GE.Ent := ⟨44, [.string ⟨#[48, 48, 49, 48, 49, 48]⟩], [], ⟨.bool false, [], []⟩⟩
set_option maxRecDepth 1000000 in
theorem wb_e10_run : (GE.evT Try.prog sh.libT 1000000).run wb_e10.f wb_e10.args wb_e10.heap = some wb_e10.rr := by kernel_rfl
theorem wb_e10_ok : GE.EntOK Try.prog wb_e10 := ⟨sh.libT, 1000000, sh.libT_ok, wb_e10_run⟩
def wb_e11 : GE.Ent := ⟨44, [.string ⟨#[48, 48, 49, 48, 49, 49]⟩], [], ⟨.bool true, [], []⟩⟩
set_option maxRecDepth 1000000 in
theorem wb_e11_run : (GE.evT Try.prog sh.libT 1000000).run wb_e11.f wb_e11.args wb_e11.heap = some wb_e11.rr := by kernel_rfl
theorem wb_e11_ok : GE.EntOK Try.prog wb_e11 := ⟨sh.libT, 1000000, sh.libT_ok, wb_e11_run⟩
def wb_e12 : GE.Ent := ⟨44, [.string ⟨#[48, 48, 49, 49, 48, 48]⟩], [], ⟨.bool false, [], []⟩⟩
set_option maxRecDepth 1000000 in
theorem wb_e12_run : (GE.evT Try.prog sh.libT 1000000).run wb_e12.f wb_e12.args wb_e12.heap = some wb_e12.rr := by kernel_rfl
theorem wb_e12_ok : GE.EntOK Try.prog wb_e12 := ⟨sh.libT, 1000000, sh.libT_ok, wb_e12_run⟩
def wb_e13 : GE.Ent := ⟨44, [.string ⟨#[48, 48, 49, 49, 48, 49]⟩], [], ⟨.bool true, [], []⟩⟩
set_option maxRecDepth 1000000 in
theorem wb_e13_run : (GE.evT Try.prog sh.libT 1000000).run wb_e13.f wb_e13.args wb_e13.heap = some wb_e13.rr := by kernel_rfl
theorem wb_e13_ok : GE.EntOK Try.prog wb_e13 := ⟨sh.libT, 1000000, sh.libT_ok, wb_e13_run⟩
def wb_e14 : GE.Ent := ⟨44, [.string ⟨#[48, 48, 49, 49, 49, 48]⟩], [], ⟨.bool false, [], []⟩⟩
set_option maxRecDepth 1000000 in
theorem wb_e14_run : (GE.evT Try.prog sh.libT 1000000).run wb_e14.f wb_e14.args wb_e14.heap = some wb_e14.rr := by kernel_rfl
theorem wb_e14_ok : GE.EntOK Try.prog wb_e14 := ⟨sh.libT, 1000000, sh.libT_ok, wb_e14_run⟩
def wb_e15 : GE.Ent := ⟨44, [.string ⟨#[48, 48, 49, 49, 49, 49]⟩], [], ⟨.bool true, [], []⟩⟩
set_option maxRecDepth 1000000 in
theorem wb_e15_run : (GE.evT Try.prog sh.libT 1000000).run wb_e15.f wb_e15.args wb_e15.heap = some wb_e15.rr := by kernel_rfl
theorem wb_e15_ok : GE.EntOK Try.prog wb_e15 := ⟨sh.libT, 1000000, sh.libT_ok, wb_e15_run⟩
def wb_e16 : GE.Ent := ⟨44, [.string ⟨#[48, 49, 48, 48, 48, 48]⟩], [], ⟨.bool false, [], []⟩⟩
set_option maxRecDepth 1000000 in
theorem wb_e16_run : (GE.evT Try.prog sh.libT 1000000).run wb_e16.f wb_e16.args wb_e16.heap = some wb_e16.rr := by kernel_rfl
theorem wb_e16_ok : GE.EntOK Try.prog wb_e16 := ⟨sh.libT, 1000000, sh.libT_ok, wb_e16_run⟩
def wb_e17 : GE.Ent := ⟨44, [.string ⟨#[48, 49, 48, 48, 48, 49]⟩], [], ⟨.bool false, [], []⟩⟩
set_option maxRecDepth 1000000 in
theorem wb_e17_run : (GE.evT Try.prog sh.libT 1000000).run wb_e17.f wb_e17.args wb_e17.heap = some wb_e17.rr := by kernel_rfl
theorem wb_e17_ok : GE.EntOK Try.prog wb_e17 := ⟨sh.libT, 1000000, sh.libT_ok, wb_e17_run⟩
def wb_e18 : GE.Ent := ⟨44, [.string ⟨#[48, 49, 48, 48, 49, 48]⟩], [], ⟨.bool false, [], []⟩⟩
set_option maxRecDepth 1000000 in
theorem wb_e18_run : (GE.evT Try.prog sh.libT 1000000).run wb_e18.f wb_e18.args wb_e18.heap = some wb_e18.rr := by kernel_rfl
theorem wb_e18_ok : GE.EntOK Try.prog wb_e18 := ⟨sh.libT, 1000000, sh.libT_ok, wb_e18_run⟩
def wb_e19 : GE.Ent := ⟨44, [.string ⟨#[48, 49, 48, 48, 49, 49]⟩], [], ⟨.bool false, [], []⟩⟩
set_option maxRecDepth 1000000 in
theorem wb_e19_run : (GE.evT Try.prog sh.libT 1000000).run wb_e19.f wb_e19.args wb_e19.heap = some wb_e19.rr := by kernel_rfl
theorem wb_e19_ok : GE.EntOK Try.prog wb_e19 := ⟨sh.libT, 1000000, sh.libT_ok, wb_e19_run⟩
def wb_e20 : GE.Ent := ⟨44, [.string ⟨#[48, 49, 48, 49, 48, 48]⟩], [], ⟨.bool false, [], []⟩⟩
set_option maxRecDepth 1000000 in
theorem wb_e20_run : (GE.evT Try.prog sh.libT 1000000).run wb_e20.f wb_e20.args wb_e20.heap = some wb_e20.rr := by kernel_rfl
theorem wb_e20_ok : GE.EntOK Try.prog wb_e20 := ⟨sh.libT, 1000000, sh.libT_ok, wb_e20_run⟩
def wb_e21 : GE.Ent := ⟨44, [.string ⟨#[48, 49, 48, 49, 48, 49]⟩], [], ⟨.bool false, [], []⟩⟩
set_option maxRecDepth 1000000 in
theorem wb_e21_run : (GE.evT Try.prog sh.libT 1000000).run wb_e21.f wb_e21.args wb_e21.heap = some wb_e21.rr := by kernel_rfl
theorem wb_e21_ok : GE.EntOK Try.prog wb_e21 := ⟨sh.libT, 1000000, sh.libT_ok, wb_e21_run⟩
def wb_e22 : GE.Ent := ⟨44, [.string ⟨#[48, 49, 48, 49, 49, 48]⟩], [], ⟨.bool false, [], []⟩⟩
set_option maxRecDepth 1000000 in
theorem wb_e22_run : (GE.evT Try.prog sh.libT 1000000).run wb_e22.f wb_e22.args wb_e22.heap = some wb_e22.rr := by kernel_rfl
theorem wb_e22_ok : GE.EntOK Try.prog wb_e22 := ⟨sh.libT, 1000000, sh.libT_ok, wb_e22_run⟩
def wb_e23 : GE.Ent := ⟨44, [.string ⟨#[48, 49, 48, 49, 49, 49]⟩], [], ⟨.bool true, [], []⟩⟩
set_option maxRecDepth 1000000 in
theorem wb_e23_run : (GE.evT Try.prog sh.libT 1000000).run wb_e23.f wb_e23.args wb_e23.heap = some wb_e23.rr := by kernel_rfl
theorem wb_e23_ok : GE.EntOK Try.prog wb_e23 := ⟨sh.libT, 1000000, sh.libT_ok, wb_e23_run⟩
def wb_e24 : GE.Ent := ⟨44, [.string ⟨#[48, 49, 49, 48, 48, 48]⟩], [], ⟨.bool false, [], []⟩⟩
set_option maxRecDepth 1000000 in
theorem wb_e24_run : (GE.evT Try.prog sh.libT 1000000).run wb_e24.f wb_e24.args wb_e24.heap = some wb_e24.rr := by kernel_rfl
theorem wb_e24_ok : GE.EntOK Try.prog wb_e24 := ⟨sh.libT, 1000000, sh.libT_ok, wb_e24_run⟩
def wb_e25 : GE.Ent := ⟨44, [.string ⟨#[48, 49, 49, 48, 48, 49]⟩], [], ⟨.bool false, [], []⟩⟩
set_option maxRecDepth 1000000 in
theorem wb_e25_run : (GE.evT Try.prog sh.libT 1000000).run wb_e25.f wb_e25.args wb_e25.heap = some wb_e25.rr := by kernel_rfl
theorem wb_e25_ok : GE.EntOK Try.prog wb_e25 := ⟨sh.libT, 1000000, sh.libT_ok, wb_e25_run⟩
def wb_e26 : GE.Ent := ⟨44, [.string ⟨#[48, 49, 49, 48, 49, 48]⟩], [], ⟨.bool false, [], []⟩⟩
set_option maxRecDepth 1000000 in
theorem wb_e26_run : (GE.evT Try.prog sh.libT 1000000).run wb_e26.f wb_e26.args wb_e26.heap = some wb_e26.rr := by kernel_rfl
theorem wb_e26_ok : GE.EntOK Try.prog wb_e26 := ⟨sh.libT, 1000000, sh.libT_ok, wb_e26_run⟩
def wb_e27 : GE.Ent := ⟨44, [.string ⟨#[48, 49, 49, 48, 49, 49]⟩], [], ⟨.bool false, [], []⟩⟩
set_option maxRecDepth 1000000 in
theorem wb_e27_run : (GE.evT Try.prog sh.libT 1000000).run wb_e27.f wb_e27.args wb_e27.heap = some wb_e27.rr := by kernel_rfl
theorem wb_e27_ok : GE.EntOK Try.prog wb_e27 := ⟨sh.libT, 1000000, sh.libT_ok, wb_e27_run⟩
def wb_e28 : GE.Ent := ⟨44, [.string ⟨#[48, 49, 49, 49, 48, 48]⟩], [], ⟨.bool false, [], []⟩⟩
set_option maxRecDepth 1000000 in
theorem wb_e28_run : (GE.evT Try.prog sh.libT 1000000).run wb_e28.f wb_e28.args wb_e28.heap = some wb_e28.rr := by kernel_rfl
theorem wb_e28_ok : GE.EntOK Try.prog wb_e28 := ⟨sh.libT, 1000000, sh.libT_ok, wb_e28_run⟩
def wb_e29 : GE.Ent := ⟨44, [.string ⟨#[48, 49, 49, 49, 48, 49]⟩], [], ⟨.bool false, [], []⟩⟩
set_option maxRecDepth 1000000 in
theorem wb_e29_run : (GE.evT Try.prog sh.libT 1000000).run wb_e29.f wb_e29.args wb_e29.heap = some wb_e29.rr := by kernel_rfl
theorem wb_e29_ok : GE.EntOK Try.prog wb_e29 := ⟨sh.libT, 1000000, sh.libT_ok, wb_e29_run⟩
def wb_e30 : GE.Ent := ⟨44, [.string ⟨#[48, 49, 49, 49, 49, 48]⟩], [], ⟨.bool false, [], []⟩⟩
set_option maxRecDepth 1000000 in
theorem wb_e30_run : (GE.evT Try.prog sh.libT 1000000).run wb_e30.f wb_e30.args wb_e30.heap = some wb_e30.rr := by kernel_rfl
theorem wb_e30_ok : GE.EntOK Try.prog wb_e30 := ⟨sh.libT, 1000000, sh.libT_ok, wb_e30_run⟩
def wb_e31 : GE.Ent := ⟨44, [.string ⟨#[48, 49, 49, 49, 49, 49]⟩], [], ⟨.bool true, [], []⟩⟩
set_option maxRecDepth 1000000 in
theorem wb_e31_run : (GE.evT Try.prog sh.libT 1000000).run wb_e31.f wb_e31.args wb_e31.heap = some wb_e31.rr := by kernel_rfl
theorem wb_e31_ok : GE.EntOK Try.prog wb_e31 := ⟨sh.libT, 1000000, sh.libT_ok, wb_e31_run⟩
def wb_e32 : GE.Ent := ⟨44, [.string ⟨#[49, 48, 48, 48, 48, 48]⟩], [], ⟨.bool false, [], []⟩⟩
set_option maxRecDepth 1000000 in
theorem wb_e32_run : (GE.evT Try.prog sh.libT 1000000).run wb_e32.f wb_e32.args wb_e32.heap = some wb_e32.rr := by kernel_rfl
theorem wb_e32_ok : GE.EntOK Try.prog wb_e32 := ⟨sh.libT, 1000000, sh.libT_ok, wb_e32_run⟩
def wb_e33 : GE.Ent := ⟨44, [.string ⟨#[49, 48, 48, 48, 48, 49]⟩], [], ⟨.bool false, [], []⟩⟩
set_option maxRecDepth 1000000 in
theorem wb_e33_run : (GE.evT Try.prog sh.libT 1000000).run wb_e33.f wb_e33.args wb_e33.heap = some wb_e33.rr := by kernel_rfl
theorem wb_e33_ok : GE.EntOK Try.prog wb_e33 := ⟨sh.libT, 1000000, sh.libT_ok, wb_e33_run⟩
def wb_e34 : GE.Ent := ⟨44, [.string ⟨#[49, 48, 48, 48, 49, 48]⟩], [], ⟨.bool false, [], []⟩⟩
set_option maxRecDepth 1000000 in
theorem wb_e34_run : (GE.evT Try.prog sh.libT 1000000).run wb_e34.f wb_e34.args wb_e34.heap = some wb_e34.rr := by kernel_rfl
theorem wb_e34_ok : GE.EntOK Try.prog wb_e34 := ⟨sh.libT, 1000000, sh.libT_ok, wb_e34_run⟩
def wb_e35 : GE.Ent := ⟨44, [.string ⟨#[49, 48, 48, 48, 49, 49]⟩], [], ⟨.bool false, [], []⟩⟩
set_option maxRecDepth 1000000 in
theorem wb_e35_run : (GE.evT Try.prog sh.libT 1000000).run wb_e35.f wb_e35.args wb_e35.heap = some wb_e35.rr := by kernel_rfl
theorem wb_e35_ok : GE.EntOK Try.prog wb_e35 := ⟨sh.libT, 1000000, sh.libT_ok, wb_e35_run⟩
def wb_e36 : GE.Ent := ⟨44, [.string ⟨#[49, 48, 48, 49, 48, 48]⟩], [], ⟨.bool false, [], []⟩⟩
set_option maxRecDepth 1000000 in
theorem wb_e36_run : (GE.evT Try.prog sh.libT 1000000).run wb_e36.f wb_e36.args wb_e36.heap = some wb_e36.rr := by kernel_rfl
theorem wb_e36_ok : GE.EntOK Try.prog wb_e36 := ⟨sh.libT, 1000000, sh.libT_ok, wb_e36_run⟩
def wb_e37 : GE.Ent := ⟨44, [.string ⟨#[49, 48, 48, 49, 48, 49]⟩], [], ⟨.bool false, [], []⟩⟩
set_option maxRecDepth 1000000 in
theorem wb_e37_run : (GE.evT Try.prog sh.libT 1000000).run wb_e37.f wb_e37.args wb_e37.heap = some wb_e37.rr := by kernel_rfl
theorem wb_e37_ok : GE.EntOK Try.prog wb_e37 := ⟨sh.libT, 1000000, sh.libT_ok, wb_e37_run⟩
def wb_e38 : GE.Ent := ⟨44, [.string ⟨#[49, 48, 48, 49, 49, 48]⟩], [], ⟨.bool false, [], []⟩⟩
set_option maxRecDepth 1000000 in
theorem wb_e38_run : (GE.evT Try.prog sh.libT 1000000).run wb_e38.f wb_e38.args wb_e38.heap = some wb_e38.rr := by kernel_rfl
theorem wb_e38_ok : GE.EntOK Try.prog wb_e38 := ⟨sh.libT, 1000000, sh.libT_ok, wb_e38_run⟩
def wb_e39 : GE.Ent := ⟨44, [.string ⟨#[49, 48, 48, 49, 49, 49]⟩], [], ⟨.bool false, [], []⟩⟩
set_option maxRecDepth 1000000 in
theorem wb_e39_run : (GE.evT Try.prog sh.libT 1000000).run wb_e39.f wb_e39.args wb_e39.heap = some wb_e39.rr := by kernel_rfl
theorem wb_e39_ok : GE.EntOK Try.prog wb_e39 := ⟨sh.libT, 1000000, sh.libT_ok, wb_e39_run⟩
def wb_e40 : GE.Ent := ⟨44, [.string ⟨#[49, 48, 49, 48, 48, 48]⟩], [], ⟨.bool false, [], []⟩⟩
set_option maxRecDepth 1000000 in
theorem wb_e40_run : (GE.evT Try.prog sh.libT 1000000).run wb_e40.f wb_e40.args wb_e40.heap = some wb_e40.rr := by kernel_rfl
theorem wb_e40_ok : GE.EntOK Try.prog wb_e40 := ⟨sh.libT, 1000000, sh.libT_ok, wb_e40_run⟩
def wb_e41 : GE.Ent := ⟨44, [.string ⟨#[49, 48, 49, 48, 48, 49]⟩], [], ⟨.bool false, [], []⟩⟩
set_option maxRecDepth 1000000 in
theorem wb_e41_run : (GE.evT Try.prog sh.libT 1000000).run wb_e41.f wb_e41.args wb_e41.heap = some wb_e41.rr := by kernel_rfl
theorem wb_e41_ok : GE.EntOK Try.prog wb_e41 := ⟨sh.libT, 1000000, sh.libT_ok, wb_e41_run⟩
def wb_e42 : GE.Ent := ⟨44, [.string ⟨#[49, 48, 49, 48, 49, 48]⟩], [], ⟨.bool false, [], []⟩⟩
set_option maxRecDepth 1000000 in
theorem wb_e42_run : (GE.evT Try.prog sh.libT 1000000).run wb_e42.f wb_e42.args wb_e42.heap = some wb_e42.rr := by kernel_rfl
theorem wb_e42_ok : GE.EntOK Try.prog wb_e42 := ⟨sh.libT, 1000000, sh.libT_ok, wb_e42_run⟩
def wb_e43 : GE.Ent := ⟨44, [.string ⟨#[49, 48, 49, 48, 49, 49]⟩], [], ⟨.bool false, [], []⟩⟩
set_option maxRecDepth 1000000 in
theorem wb_e43_run : (GE.evT Try.prog sh.libT 1000000).run wb_e43.f wb_e43.args wb_e43.heap = some wb_e43.rr := by kernel_rfl
theorem wb_e43_ok : GE.EntOK Try.prog wb_e43 := ⟨sh.libT, 1000000, sh.libT_ok, wb_e43_run⟩
def wb_e44 : GE.Ent := ⟨44, [.string ⟨#[49, 48, 49, 49, 48, 48]⟩], [], ⟨.bool false, [], []⟩⟩
set_option maxRecDepth 1000000 in
theorem wb_e44_run : (GE.evT Try.prog sh.libT 1000000).run wb_e44.f wb_e44.args wb_e44.heap = some wb_e44.rr := by kernel_rfl
theorem wb_e44_ok : GE.EntOK Try.prog wb_e44 := ⟨sh.libT, 1000000, sh.libT_ok, wb_e44_run⟩
def wb_e45 : GE.Ent := ⟨44, [.string ⟨#[49, 48, 49, 49, 48, 49]⟩], [], ⟨.bool false, [], []⟩⟩
set_option maxRecDepth 1000000 in
theorem wb_e45_run : (GE.evT Try.prog sh.libT 1000000).run wb_e45.f wb_e45.args wb_e45.heap = some wb_e45.rr := by kernel_rfl
theorem wb_e45_ok : GE.EntOK Try.prog wb_e45 := ⟨sh.libT, 1000000, sh.libT_ok, wb_e45_run⟩
def wb_e46 : GE.Ent := ⟨44, [.string ⟨#[49, 48, 49, 49, 49, 48]⟩], [], ⟨.bool false, [], []⟩⟩
set_option maxRecDepth 1000000 in
theorem wb_e46_run : (GE.evT Try.prog sh.libT 1000000).run wb_e46.f wb_e46.args wb_e46.heap = some wb_e46.rr := by kernel_rfl
theorem wb_e46_ok : GE.EntOK Try.prog wb_e46 := ⟨sh.libT, 1000000, sh.libT_ok, wb_e46_run⟩
def wb_e47 : GE.Ent := ⟨44, [.string ⟨#[49, 48, 49, 49, 49, 49]⟩], [], ⟨.bool false, [], []⟩⟩
set_option maxRecDepth 1000000 in
theorem wb_e47_run : (GE.evT Try.prog sh.libT 1000000).run wb_e47.f wb_e47.args wb_e47.heap = some wb_e47.rr := by kernel_rfl
theorem wb_e47_ok : GE.EntOK Try.prog wb_e47 := ⟨sh.libT, 1000000, sh.libT_ok, wb_e47_run⟩
def wb_e48 : GE.Ent := ⟨44, [.string ⟨#[49, 49, 48, 48, 48, 48]⟩], [], ⟨.bool false, [], []⟩⟩
set_option maxRecDepth 1000000 in
theorem wb_e48_run : (GE.evT Try.prog sh.libT 1000000).run wb_e48.f wb_e48.args wb_e48.heap = some wb_e48.rr := by kernel_rfl
theorem wb_e48_ok : GE.EntOK Try.prog wb_e48 := ⟨sh.libT, 1000000, sh.libT_ok, wb_e48_run⟩
def wb_e49 : GE.Ent := ⟨44, [.string ⟨#[49, 49, 48, 48, 48, 49]⟩], [], ⟨.bool false, [], []⟩⟩
set_option maxRecDepth 1000000 in
theorem wb_e49_run : (GE.evT Try.prog sh.libT 1000000).run wb_e49.f wb_e49.args wb_e49.heap = some wb_e49.rr := by kernel_rfl
theorem wb_e49_ok : GE.EntOK Try.prog wb_e49 := ⟨sh.libT, 1000000, sh.libT_ok, wb_e49_run⟩
def wb_e50 : GE.Ent := ⟨44, [.string ⟨#[49, 49, 48, 48, 49, 48]⟩], [], ⟨.bool false, [], []⟩⟩
set_option maxRecDepth 1000000 in
theorem wb_e50_run : (GE.evT Try.prog sh.libT 1000000).run wb_e50.f wb_e50.args wb_e50.heap = some wb_e50.rr := by kernel_rfl
theorem wb_e50_ok : GE.EntOK Try.prog wb_e50 := ⟨sh.libT, 1000000, sh.libT_ok, wb_e50_run⟩
def wb_e51 : GE.Ent := ⟨44, [.string ⟨#[49, 49, 48, 48, 49, 49]⟩], [], ⟨.bool false, [], []⟩⟩
set_option maxRecDepth 1000000 in
theorem wb_e51_run : (GE.evT Try.prog sh.libT 1000000).run wb_e51.f wb_e51.args wb_e51.heap = some wb_e51.rr := by kernel_rfl
theorem wb_e51_ok : GE.EntOK Try.prog wb_e51 := ⟨sh.libT, 1000000, sh.libT_ok, wb_e51_run⟩
def wb_e52 : GE.Ent := ⟨44, [.string ⟨#[49, 49, 48, 49, 48, 48]⟩], [], ⟨.bool false, [], []⟩⟩
set_option maxRecDepth 1000000 in
theorem wb_e52_run : (GE.evT Try.prog sh.libT 1000000).run wb_e52.f wb_e52.args wb_e52.heap = some wb_e52.rr := by kernel_rfl
theorem wb_e52_ok : GE.EntOK Try.prog wb_e52 := ⟨sh.libT, 1000000, sh.libT_ok, wb_e52_run⟩
def wb_e53 : GE.Ent := ⟨44, [.string ⟨#[49, 49, 48, 49, 48, 49]⟩], [], ⟨.bool false, [], []⟩⟩
set_option maxRecDepth 1000000 in
theorem wb_e53_run : (GE.evT Try.prog sh.libT 1000000).run wb_e53.f wb_e53.args wb_e53.heap = some wb_e53.rr := by kernel_rfl
theorem wb_e53_ok : GE.EntOK Try.prog wb_e53 := ⟨sh.libT, 1000000, sh.libT_ok, wb_e53_run⟩
def wb_e54 : GE.Ent := ⟨44, [.string ⟨#[49, 49, 48, 49, 49, 48]⟩], [], ⟨.bool false, [], []⟩⟩
set_option maxRecDepth 1000000 in
theorem wb_e54_run : (GE.evT Try.prog sh.libT 1000000).run wb_e54.f wb_e54.args wb_e54.heap = some wb_e54.rr := by kernel_rfl
theorem wb_e54_ok : GE.EntOK Try.prog wb_e54 := ⟨sh.libT, 1000000, sh.libT_ok, wb_e54_run⟩
def wb_e55 : GE.Ent := ⟨44, [.string ⟨#[49, 49, 48, 49, 49, 49]⟩], [], ⟨.bool false, [], []⟩⟩
set_option maxRecDepth 1000000 in
theorem wb_e55_run : (GE.evT Try.prog sh.libT 1000000).run wb_e55.f wb_e55.args wb_e55.heap = some wb_e55.rr := by kernel_rfl
theorem wb_e55_ok : GE.EntOK Try.prog wb_e55 := ⟨sh.libT, 1000000, sh.libT_ok, wb_e55_run⟩
def wb_e56 : GE.Ent := ⟨44, [.string ⟨#[49, 49, 49, 48, 48, 48]⟩], [], ⟨.bool false, [], []⟩⟩
set_option maxRecDepth 1000000 in
theorem wb_e56_run : (GE.evT Try.prog sh.libT 1000000).run wb_e56.f wb_e56.args wb_e56.heap = some wb_e56.rr := by kernel_rfl
theorem wb_e56_ok : GE.EntOK Try.prog wb_e56 := ⟨sh.libT, 1000000, sh.libT_ok, wb_e56_run⟩
def wb_e57 : GE.Ent := ⟨44, [.string ⟨#[49, 49, 49, 48, 48, 49]⟩], [], ⟨.bool false, [], []⟩⟩
set_option maxRecDepth 1000000 in
theorem wb_e57_run : (GE.evT Try.prog sh.libT 1000000).run wb_e57.f wb_e57.args wb_e57.heap = some wb_e57.rr := by kernel_rfl
theorem wb_e57_ok : GE.EntOK Try.prog wb_e57 := ⟨sh.libT, 1000000, sh.libT_ok, wb_e57_run⟩
def wb_e58 : GE.Ent := ⟨44, [.string ⟨#[49, 49, 49, 48, 49, 48]⟩], [], ⟨.bool false, [], []⟩⟩
set_option maxRecDepth 1000000 in
theorem wb_e58_run : (GE.evT Try.prog sh.libT 1000000).run wb_e58.f wb_e58.args wb_e58.heap = some wb_e58.rr := by kernel_rfl
theorem wb_e58_ok : GE.EntOK Try.prog wb_e58 := ⟨sh.libT, 1000000, sh.libT_ok, wb_e58_run⟩
def wb_e59 : GE.Ent := ⟨44, [.string ⟨#[49, 49, 49, 48, 49, 49]⟩], [], ⟨.bool false, [], []⟩⟩
set_option maxRecDepth 1000000 in
theorem wb_e59_run : (GE.evT Try.prog sh.libT 1000000).run wb_e59.f wb_e59.args wb_e59.heap = some wb_e59.rr := by kernel_rfl
theorem wb_e59_ok : GE.EntOK Try.prog wb_e59 := ⟨sh.libT, 1000000, sh.libT_ok, wb_e59_run⟩
def wb_e60 : GE.Ent := ⟨44, [.string ⟨#[49, 49, 49, 49, 48, 48]⟩], [], ⟨.bool false, [], []⟩⟩
set_option maxRecDepth 1000000 in
theorem wb_e60_run : (GE.evT Try.prog sh.libT 1000000).run wb_e60.f wb_e60.args wb_e60.heap = some wb_e60.rr := by kernel_rfl
theorem wb_e60_ok : GE.EntOK Try.prog wb_e60 := ⟨sh.libT, 1000000, sh.libT_ok, wb_e60_run⟩
def wb_e61 : GE.Ent := ⟨44, [.string ⟨#[49, 49, 49, 49, 48, 49]⟩], [], ⟨.bool false, [], []⟩⟩
set_option maxRecDepth 1000000 in
theorem wb_e61_run : (GE.evT Try.prog sh.libT 1000000).run wb_e61.f wb_e61.args wb_e61.heap = some wb_e61.rr := by kernel_rfl
theorem wb_e61_ok : GE.EntOK Try.prog wb_e61 := ⟨sh.libT, 1000000, sh.libT_ok, wb_e61_run⟩
def wb_e62 : GE.Ent := ⟨44, [.string ⟨#[49, 49, 49, 49, 49, 48]⟩], [], ⟨.bool false, [], []⟩⟩
set_option maxRecDepth 1000000 in
theorem wb_e62_run : (GE.evT Try.prog sh.libT 1000000).run wb_e62.f wb_e62.args wb_e62.heap = some wb_e62.rr := by kernel_rfl
theorem wb_e62_ok : GE.EntOK Try.prog wb_e62 := ⟨sh.libT, 1000000, sh.libT_ok, wb_e62_run⟩
def wb_e63 : GE.Ent := ⟨44, [.string ⟨#[49, 49, 49, 49, 49, 49]⟩], [], ⟨.bool false, [], []⟩⟩
set_option maxRecDepth 1000000 in
theorem wb_e63_run : (GE.evT Try.prog sh.libT 1000000).run wb_e63.f wb_e63.args wb_e63.heap = some wb_e63.rr := by kernel_rfl
theorem wb_e63_ok : GE.EntOK Try.prog wb_e63 := ⟨sh.libT, 1000000, sh.libT_ok, wb_e63_run⟩
def tabWb : GE.Tab := sh.tabO [wb_e0, wb_e1, wb_e2, wb_e3, wb_e4, wb_e5, wb_e6, wb_e7, wb_e8, wb_e9, wb_e10, wb_e11, wb_e12, wb_e13, wb_e14, wb_e15, wb_e16, wb_e17, wb_e18, wb_e19, wb_e20, wb_e21, wb_e22, wb_e23, wb_e24, wb_e25, wb_e26, wb_e27, wb_e28, wb_e29, wb_e30, wb_e31, wb_e32, wb_e33, wb_e34, wb_e35, wb_e36, wb_e37, wb_e38, wb_e39, wb_e40, wb_e41, wb_e42, wb_e43, wb_e44, wb_e45, wb_e46, wb_e47, wb_e48, wb_e49, wb_e50, wb_e51, wb_e52, wb_e53, wb_e54, wb_e55, wb_e56, wb_e57, wb_e58, wb_e59, wb_e60, wb_e61, wb_e62, wb_e63] sh.libT
theorem tabWb_ok : GE.TabOK Try.prog tabWb := sh.tabO_ok sh.mixed (.cons wb_e0_ok (.cons wb_e1_ok (.cons wb_e2_ok (.cons wb_e3_ok (.cons wb_e4_ok (.cons wb_e5_ok (.cons wb_e6_ok (.cons wb_e7_ok (.cons wb_e8_ok (.cons wb_e9_ok (.cons wb_e10_ok (.cons wb_e11_ok (.cons wb_e12_ok (.cons wb_e13_ok (.cons wb_e14_ok (.cons wb_e15_ok (.cons wb_e16_ok (.cons wb_e17_ok (.cons wb_e18_ok (.cons wb_e19_ok (.cons wb_e20_ok (.cons wb_e21_ok (.cons wb_e22_ok (.cons wb_e23_ok (.cons wb_e24_ok (.cons wb_e25_ok (.cons wb_e26_ok (.cons wb_e27_ok (.cons wb_e28_ok (.cons wb_e29_ok (.cons wb_e30_ok (.cons wb_e31_ok (.cons wb_e32_ok (.cons wb_e33_ok (.cons wb_e34_ok (.cons wb_e35_ok (.cons wb_e36_ok (.cons wb_e37_ok (.cons wb_e38_ok (.cons wb_e39_ok (.cons wb_e40_ok (.cons wb_e41_ok (.cons wb_e42_ok (.cons wb_e43_ok (.cons wb_e44_ok (.cons wb_e45_ok (.cons wb_e46_ok (.cons wb_e47_ok (.cons wb_e48_ok (.cons wb_e49_ok (.cons wb_e50_ok (.cons wb_e51_ok (.cons wb_e52_ok (.cons wb_e53_ok (.cons wb_e54_ok (.cons wb_e55_ok (.cons wb_e56_ok (.cons wb_e57_ok (.cons wb_e58_ok (.cons wb_e59_ok (.cons wb_e60_ok (.cons wb_e61_ok (.cons wb_e62_ok (.cons wb_e63_ok .nil)))))))))))))))))))))))))))))))))))))))))))))))))))))))))))))))) sh.libT_ok
end Go.Proofs.Ytjimphlkhjmaiaa.wk
