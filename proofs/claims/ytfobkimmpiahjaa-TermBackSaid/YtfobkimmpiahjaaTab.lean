/-
  The table of the types of this seat's program, for the walking layer: made by a program (mkseat.py).
-/
import Derived.Test.YtfobkimmpiahjaaRows
import Derived.Test.YtfobkimmpiahjaaGs
import Derived.KernelRfl
namespace Go.Proofs.Ytfobkimmpiahjaa
open Go
def TTl : List (Option Wk.TI) := [
  none,
  some ⟨.func, 1, 8, [Go.Value.nilFunc]⟩,
  some ⟨.int Go.IntKind.i64, 1, 8, [(Go.Value.int Go.IntKind.i64 0)]⟩,
  some ⟨.int Go.IntKind.i64, 1, 8, [(Go.Value.int Go.IntKind.i64 0)]⟩,
  some ⟨.bool, 1, 1, [(Go.Value.bool false)]⟩,
  some ⟨.int Go.IntKind.u8, 1, 1, [(Go.Value.int Go.IntKind.u8 0)]⟩,
  some ⟨.int Go.IntKind.u8, 1, 1, [(Go.Value.int Go.IntKind.u8 0)]⟩,
  some ⟨.strct [(0, 1, 2), (1, 1, 3), (2, 1, 4), (3, 1, 6)], 4, 24, [(Go.Value.int Go.IntKind.i64 0), (Go.Value.int Go.IntKind.i64 0), (Go.Value.bool false), (Go.Value.int Go.IntKind.u8 0)]⟩,
  some ⟨.strct [(0, 1, 2), (1, 1, 3), (2, 1, 4), (3, 1, 6)], 4, 24, [(Go.Value.int Go.IntKind.i64 0), (Go.Value.int Go.IntKind.i64 0), (Go.Value.bool false), (Go.Value.int Go.IntKind.u8 0)]⟩,
  some ⟨.string, 1, 16, [(Go.Value.string { data := #[] })]⟩,
  some ⟨.string, 1, 16, [(Go.Value.string { data := #[] })]⟩,
  some ⟨.string, 1, 16, [(Go.Value.string { data := #[] })]⟩,
  some ⟨.int Go.IntKind.u64, 1, 8, [(Go.Value.int Go.IntKind.u64 0)]⟩,
  none,
  none,
  some ⟨.ptr 99, 1, 8, [(Go.Value.pointer none)]⟩,
  some ⟨.ptr 102, 1, 8, [(Go.Value.pointer none)]⟩,
  some ⟨.ptr 110, 1, 8, [(Go.Value.pointer none)]⟩,
  none,
  none,
  some ⟨.iface, 1, 16, [Go.Value.nilIface]⟩,
  some ⟨.int Go.IntKind.i32, 1, 4, [(Go.Value.int Go.IntKind.i32 0)]⟩,
  some ⟨.slice 9, 1, 24, [(Go.Value.slice none 0 0)]⟩,
  some ⟨.func, 1, 8, [Go.Value.nilFunc]⟩,
  some ⟨.func, 1, 8, [Go.Value.nilFunc]⟩,
  some ⟨.int Go.IntKind.i64, 1, 8, [(Go.Value.int Go.IntKind.i64 0)]⟩,
  none,
  some ⟨.func, 1, 8, [Go.Value.nilFunc]⟩,
  some ⟨.func, 1, 8, [Go.Value.nilFunc]⟩,
  some ⟨.func, 1, 8, [Go.Value.nilFunc]⟩,
  some ⟨.func, 1, 8, [Go.Value.nilFunc]⟩,
  some ⟨.func, 1, 8, [Go.Value.nilFunc]⟩,
  some ⟨.func, 1, 8, [Go.Value.nilFunc]⟩,
  some ⟨.func, 1, 8, [Go.Value.nilFunc]⟩,
  some ⟨.func, 1, 8, [Go.Value.nilFunc]⟩,
  some ⟨.func, 1, 8, [Go.Value.nilFunc]⟩,
  some ⟨.func, 1, 8, [Go.Value.nilFunc]⟩,
  some ⟨.func, 1, 8, [Go.Value.nilFunc]⟩,
  none,
  some ⟨.func, 1, 8, [Go.Value.nilFunc]⟩,
  some ⟨.func, 1, 8, [Go.Value.nilFunc]⟩,
  none,
  some ⟨.func, 1, 8, [Go.Value.nilFunc]⟩,
  some ⟨.func, 1, 8, [Go.Value.nilFunc]⟩,
  none,
  some ⟨.func, 1, 8, [Go.Value.nilFunc]⟩,
  some ⟨.func, 1, 8, [Go.Value.nilFunc]⟩,
  some ⟨.func, 1, 8, [Go.Value.nilFunc]⟩,
  some ⟨.func, 1, 8, [Go.Value.nilFunc]⟩,
  some ⟨.int Go.IntKind.u64, 1, 8, [(Go.Value.int Go.IntKind.u64 0)]⟩,
  some ⟨.func, 1, 8, [Go.Value.nilFunc]⟩,
  some ⟨.func, 1, 8, [Go.Value.nilFunc]⟩,
  some ⟨.func, 1, 8, [Go.Value.nilFunc]⟩,
  some ⟨.func, 1, 8, [Go.Value.nilFunc]⟩,
  some ⟨.ptr 57, 1, 8, [(Go.Value.pointer none)]⟩,
  some ⟨.slice 5, 1, 24, [(Go.Value.slice none 0 0)]⟩,
  some ⟨.strct [(0, 1, 54), (1, 1, 55)], 2, 32, [(Go.Value.pointer none), (Go.Value.slice none 0 0)]⟩,
  some ⟨.strct [(0, 1, 54), (1, 1, 55)], 2, 32, [(Go.Value.pointer none), (Go.Value.slice none 0 0)]⟩,
  some ⟨.func, 1, 8, [Go.Value.nilFunc]⟩,
  some ⟨.func, 1, 8, [Go.Value.nilFunc]⟩,
  some ⟨.func, 1, 8, [Go.Value.nilFunc]⟩,
  some ⟨.strct [(0, 1, 3), (1, 1, 3), (2, 1, 3)], 3, 24, [(Go.Value.int Go.IntKind.i64 0), (Go.Value.int Go.IntKind.i64 0), (Go.Value.int Go.IntKind.i64 0)]⟩,
  some ⟨.strct [(0, 1, 3), (1, 1, 3), (2, 1, 3)], 3, 24, [(Go.Value.int Go.IntKind.i64 0), (Go.Value.int Go.IntKind.i64 0), (Go.Value.int Go.IntKind.i64 0)]⟩,
  some ⟨.iface, 1, 16, [Go.Value.nilIface]⟩,
  some ⟨.iface, 1, 16, [Go.Value.nilIface]⟩,
  none,
  some ⟨.func, 1, 8, [Go.Value.nilFunc]⟩,
  some ⟨.func, 1, 8, [Go.Value.nilFunc]⟩,
  some ⟨.func, 1, 8, [Go.Value.nilFunc]⟩,
  some ⟨.func, 1, 8, [Go.Value.nilFunc]⟩,
  some ⟨.func, 1, 8, [Go.Value.nilFunc]⟩,
  some ⟨.func, 1, 8, [Go.Value.nilFunc]⟩,
  none,
  some ⟨.func, 1, 8, [Go.Value.nilFunc]⟩,
  some ⟨.func, 1, 8, [Go.Value.nilFunc]⟩,
  some ⟨.func, 1, 8, [Go.Value.nilFunc]⟩,
  some ⟨.arr 9 5, 9, 9, [(Go.Value.int Go.IntKind.u8 0), (Go.Value.int Go.IntKind.u8 0), (Go.Value.int Go.IntKind.u8 0), (Go.Value.int Go.IntKind.u8 0), (Go.Value.int Go.IntKind.u8 0), (Go.Value.int Go.IntKind.u8 0), (Go.Value.int Go.IntKind.u8 0), (Go.Value.int Go.IntKind.u8 0), (Go.Value.int Go.IntKind.u8 0)]⟩,
  some ⟨.int Go.IntKind.u64, 1, 8, [(Go.Value.int Go.IntKind.u64 0)]⟩,
  some ⟨.func, 1, 8, [Go.Value.nilFunc]⟩,
  some ⟨.func, 1, 8, [Go.Value.nilFunc]⟩,
  some ⟨.slice 62, 1, 24, [(Go.Value.slice none 0 0)]⟩,
  some ⟨.ptr 5, 1, 8, [(Go.Value.pointer none)]⟩,
  none,
  some ⟨.func, 1, 8, [Go.Value.nilFunc]⟩,
  none,
  some ⟨.func, 1, 8, [Go.Value.nilFunc]⟩,
  some ⟨.strct [(0, 1, 25)], 1, 8, [(Go.Value.int Go.IntKind.i64 0)]⟩,
  some ⟨.strct [(0, 1, 25)], 1, 8, [(Go.Value.int Go.IntKind.i64 0)]⟩,
  none,
  some ⟨.func, 1, 8, [Go.Value.nilFunc]⟩,
  none,
  some ⟨.func, 1, 8, [Go.Value.nilFunc]⟩,
  some ⟨.func, 1, 8, [Go.Value.nilFunc]⟩,
  some ⟨.func, 1, 8, [Go.Value.nilFunc]⟩,
  some ⟨.func, 1, 8, [Go.Value.nilFunc]⟩,
  some ⟨.func, 1, 8, [Go.Value.nilFunc]⟩,
  none,
  some ⟨.func, 1, 8, [Go.Value.nilFunc]⟩,
  none,
  none,
  some ⟨.arr 0 16, 0, 0, []⟩,
  none,
  none,
  some ⟨.int Go.IntKind.u32, 1, 4, [(Go.Value.int Go.IntKind.u32 0)]⟩,
  some ⟨.int Go.IntKind.u8, 1, 1, [(Go.Value.int Go.IntKind.u8 0)]⟩,
  some ⟨.int Go.IntKind.u8, 1, 1, [(Go.Value.int Go.IntKind.u8 0)]⟩,
  some ⟨.func, 1, 8, [Go.Value.nilFunc]⟩,
  some ⟨.int Go.IntKind.i32, 1, 4, [(Go.Value.int Go.IntKind.i32 0)]⟩,
  some ⟨.int Go.IntKind.i32, 1, 4, [(Go.Value.int Go.IntKind.i32 0)]⟩]
def TT : Wk.Tab := Wk.nth TTl
theorem TT_eq (t : Nat) : TT t = Wk.nth TTl t := rfl
theorem tok1 : Wk.TOk Try.prog 1 ⟨.func, 1, 8, [Go.Value.nilFunc]⟩ := ⟨⟨Try.t1, _, by kernel_rfl, rfl, rfl, rfl, by kernel_rfl⟩, ⟨_, _, _, Try.underlying1⟩⟩
theorem tok2 : Wk.TOk Try.prog 2 ⟨.int Go.IntKind.i64, 1, 8, [(Go.Value.int Go.IntKind.i64 0)]⟩ := ⟨⟨Try.t2, _, by kernel_rfl, rfl, rfl, rfl, by kernel_rfl⟩, Try.underlying2⟩
theorem tok3 : Wk.TOk Try.prog 3 ⟨.int Go.IntKind.i64, 1, 8, [(Go.Value.int Go.IntKind.i64 0)]⟩ := ⟨⟨Try.t3, _, by kernel_rfl, rfl, rfl, rfl, by kernel_rfl⟩, Try.underlying3⟩
theorem tok4 : Wk.TOk Try.prog 4 ⟨.bool, 1, 1, [(Go.Value.bool false)]⟩ := ⟨⟨Try.t4, _, by kernel_rfl, rfl, rfl, rfl, by kernel_rfl⟩, Try.underlying4⟩
theorem tok5 : Wk.TOk Try.prog 5 ⟨.int Go.IntKind.u8, 1, 1, [(Go.Value.int Go.IntKind.u8 0)]⟩ := ⟨⟨Try.t5, _, by kernel_rfl, rfl, rfl, rfl, by kernel_rfl⟩, Try.underlying5⟩
theorem tok6 : Wk.TOk Try.prog 6 ⟨.int Go.IntKind.u8, 1, 1, [(Go.Value.int Go.IntKind.u8 0)]⟩ := ⟨⟨Try.t6, _, by kernel_rfl, rfl, rfl, rfl, by kernel_rfl⟩, Try.underlying6⟩
theorem tok7 : Wk.TOk Try.prog 7 ⟨.strct [(0, 1, 2), (1, 1, 3), (2, 1, 4), (3, 1, 6)], 4, 24, [(Go.Value.int Go.IntKind.i64 0), (Go.Value.int Go.IntKind.i64 0), (Go.Value.bool false), (Go.Value.int Go.IntKind.u8 0)]⟩ := ⟨⟨Try.t7, _, by kernel_rfl, rfl, rfl, rfl, by kernel_rfl⟩, ⟨_, Try.underlying7, by kernel_rfl, Try.stoodInHeld7, by kernel_rfl⟩⟩
theorem tok8 : Wk.TOk Try.prog 8 ⟨.strct [(0, 1, 2), (1, 1, 3), (2, 1, 4), (3, 1, 6)], 4, 24, [(Go.Value.int Go.IntKind.i64 0), (Go.Value.int Go.IntKind.i64 0), (Go.Value.bool false), (Go.Value.int Go.IntKind.u8 0)]⟩ := ⟨⟨Try.t8, _, by kernel_rfl, rfl, rfl, rfl, by kernel_rfl⟩, ⟨_, Try.underlying8, by kernel_rfl, Try.stoodInHeld8, by kernel_rfl⟩⟩
theorem tok9 : Wk.TOk Try.prog 9 ⟨.string, 1, 16, [(Go.Value.string { data := #[] })]⟩ := ⟨⟨Try.t9, _, by kernel_rfl, rfl, rfl, rfl, by kernel_rfl⟩, Try.underlying9⟩
theorem tok10 : Wk.TOk Try.prog 10 ⟨.string, 1, 16, [(Go.Value.string { data := #[] })]⟩ := ⟨⟨Try.t10, _, by kernel_rfl, rfl, rfl, rfl, by kernel_rfl⟩, Try.underlying10⟩
theorem tok11 : Wk.TOk Try.prog 11 ⟨.string, 1, 16, [(Go.Value.string { data := #[] })]⟩ := ⟨⟨Try.t11, _, by kernel_rfl, rfl, rfl, rfl, by kernel_rfl⟩, Try.underlying11⟩
theorem tok12 : Wk.TOk Try.prog 12 ⟨.int Go.IntKind.u64, 1, 8, [(Go.Value.int Go.IntKind.u64 0)]⟩ := ⟨⟨Try.t12, _, by kernel_rfl, rfl, rfl, rfl, by kernel_rfl⟩, Try.underlying12⟩
theorem tok15 : Wk.TOk Try.prog 15 ⟨.ptr 99, 1, 8, [(Go.Value.pointer none)]⟩ := ⟨⟨Try.t15, _, by kernel_rfl, rfl, rfl, rfl, by kernel_rfl⟩, Try.underlying15⟩
theorem tok16 : Wk.TOk Try.prog 16 ⟨.ptr 102, 1, 8, [(Go.Value.pointer none)]⟩ := ⟨⟨Try.t16, _, by kernel_rfl, rfl, rfl, rfl, by kernel_rfl⟩, Try.underlying16⟩
theorem tok17 : Wk.TOk Try.prog 17 ⟨.ptr 110, 1, 8, [(Go.Value.pointer none)]⟩ := ⟨⟨Try.t17, _, by kernel_rfl, rfl, rfl, rfl, by kernel_rfl⟩, Try.underlying17⟩
theorem tok20 : Wk.TOk Try.prog 20 ⟨.iface, 1, 16, [Go.Value.nilIface]⟩ := ⟨⟨Try.t20, _, by kernel_rfl, rfl, rfl, rfl, by kernel_rfl⟩, ⟨_, Try.underlying20⟩⟩
theorem tok21 : Wk.TOk Try.prog 21 ⟨.int Go.IntKind.i32, 1, 4, [(Go.Value.int Go.IntKind.i32 0)]⟩ := ⟨⟨Try.t21, _, by kernel_rfl, rfl, rfl, rfl, by kernel_rfl⟩, Try.underlying21⟩
theorem tok22 : Wk.TOk Try.prog 22 ⟨.slice 9, 1, 24, [(Go.Value.slice none 0 0)]⟩ := ⟨⟨Try.t22, _, by kernel_rfl, rfl, rfl, rfl, by kernel_rfl⟩, Try.underlying22⟩
theorem tok23 : Wk.TOk Try.prog 23 ⟨.func, 1, 8, [Go.Value.nilFunc]⟩ := ⟨⟨Try.t23, _, by kernel_rfl, rfl, rfl, rfl, by kernel_rfl⟩, ⟨_, _, _, Try.underlying23⟩⟩
theorem tok24 : Wk.TOk Try.prog 24 ⟨.func, 1, 8, [Go.Value.nilFunc]⟩ := ⟨⟨Try.t24, _, by kernel_rfl, rfl, rfl, rfl, by kernel_rfl⟩, ⟨_, _, _, Try.underlying24⟩⟩
theorem tok25 : Wk.TOk Try.prog 25 ⟨.int Go.IntKind.i64, 1, 8, [(Go.Value.int Go.IntKind.i64 0)]⟩ := ⟨⟨Try.t25, _, by kernel_rfl, rfl, rfl, rfl, by kernel_rfl⟩, Try.underlying25⟩
theorem tok27 : Wk.TOk Try.prog 27 ⟨.func, 1, 8, [Go.Value.nilFunc]⟩ := ⟨⟨Try.t27, _, by kernel_rfl, rfl, rfl, rfl, by kernel_rfl⟩, ⟨_, _, _, Try.underlying27⟩⟩
theorem tok28 : Wk.TOk Try.prog 28 ⟨.func, 1, 8, [Go.Value.nilFunc]⟩ := ⟨⟨Try.t28, _, by kernel_rfl, rfl, rfl, rfl, by kernel_rfl⟩, ⟨_, _, _, Try.underlying28⟩⟩
theorem tok29 : Wk.TOk Try.prog 29 ⟨.func, 1, 8, [Go.Value.nilFunc]⟩ := ⟨⟨Try.t29, _, by kernel_rfl, rfl, rfl, rfl, by kernel_rfl⟩, ⟨_, _, _, Try.underlying29⟩⟩
theorem tok30 : Wk.TOk Try.prog 30 ⟨.func, 1, 8, [Go.Value.nilFunc]⟩ := ⟨⟨Try.t30, _, by kernel_rfl, rfl, rfl, rfl, by kernel_rfl⟩, ⟨_, _, _, Try.underlying30⟩⟩
theorem tok31 : Wk.TOk Try.prog 31 ⟨.func, 1, 8, [Go.Value.nilFunc]⟩ := ⟨⟨Try.t31, _, by kernel_rfl, rfl, rfl, rfl, by kernel_rfl⟩, ⟨_, _, _, Try.underlying31⟩⟩
theorem tok32 : Wk.TOk Try.prog 32 ⟨.func, 1, 8, [Go.Value.nilFunc]⟩ := ⟨⟨Try.t32, _, by kernel_rfl, rfl, rfl, rfl, by kernel_rfl⟩, ⟨_, _, _, Try.underlying32⟩⟩
theorem tok33 : Wk.TOk Try.prog 33 ⟨.func, 1, 8, [Go.Value.nilFunc]⟩ := ⟨⟨Try.t33, _, by kernel_rfl, rfl, rfl, rfl, by kernel_rfl⟩, ⟨_, _, _, Try.underlying33⟩⟩
theorem tok34 : Wk.TOk Try.prog 34 ⟨.func, 1, 8, [Go.Value.nilFunc]⟩ := ⟨⟨Try.t34, _, by kernel_rfl, rfl, rfl, rfl, by kernel_rfl⟩, ⟨_, _, _, Try.underlying34⟩⟩
theorem tok35 : Wk.TOk Try.prog 35 ⟨.func, 1, 8, [Go.Value.nilFunc]⟩ := ⟨⟨Try.t35, _, by kernel_rfl, rfl, rfl, rfl, by kernel_rfl⟩, ⟨_, _, _, Try.underlying35⟩⟩
theorem tok36 : Wk.TOk Try.prog 36 ⟨.func, 1, 8, [Go.Value.nilFunc]⟩ := ⟨⟨Try.t36, _, by kernel_rfl, rfl, rfl, rfl, by kernel_rfl⟩, ⟨_, _, _, Try.underlying36⟩⟩
theorem tok37 : Wk.TOk Try.prog 37 ⟨.func, 1, 8, [Go.Value.nilFunc]⟩ := ⟨⟨Try.t37, _, by kernel_rfl, rfl, rfl, rfl, by kernel_rfl⟩, ⟨_, _, _, Try.underlying37⟩⟩
theorem tok39 : Wk.TOk Try.prog 39 ⟨.func, 1, 8, [Go.Value.nilFunc]⟩ := ⟨⟨Try.t39, _, by kernel_rfl, rfl, rfl, rfl, by kernel_rfl⟩, ⟨_, _, _, Try.underlying39⟩⟩
theorem tok40 : Wk.TOk Try.prog 40 ⟨.func, 1, 8, [Go.Value.nilFunc]⟩ := ⟨⟨Try.t40, _, by kernel_rfl, rfl, rfl, rfl, by kernel_rfl⟩, ⟨_, _, _, Try.underlying40⟩⟩
theorem tok42 : Wk.TOk Try.prog 42 ⟨.func, 1, 8, [Go.Value.nilFunc]⟩ := ⟨⟨Try.t42, _, by kernel_rfl, rfl, rfl, rfl, by kernel_rfl⟩, ⟨_, _, _, Try.underlying42⟩⟩
theorem tok43 : Wk.TOk Try.prog 43 ⟨.func, 1, 8, [Go.Value.nilFunc]⟩ := ⟨⟨Try.t43, _, by kernel_rfl, rfl, rfl, rfl, by kernel_rfl⟩, ⟨_, _, _, Try.underlying43⟩⟩
theorem tok45 : Wk.TOk Try.prog 45 ⟨.func, 1, 8, [Go.Value.nilFunc]⟩ := ⟨⟨Try.t45, _, by kernel_rfl, rfl, rfl, rfl, by kernel_rfl⟩, ⟨_, _, _, Try.underlying45⟩⟩
theorem tok46 : Wk.TOk Try.prog 46 ⟨.func, 1, 8, [Go.Value.nilFunc]⟩ := ⟨⟨Try.t46, _, by kernel_rfl, rfl, rfl, rfl, by kernel_rfl⟩, ⟨_, _, _, Try.underlying46⟩⟩
theorem tok47 : Wk.TOk Try.prog 47 ⟨.func, 1, 8, [Go.Value.nilFunc]⟩ := ⟨⟨Try.t47, _, by kernel_rfl, rfl, rfl, rfl, by kernel_rfl⟩, ⟨_, _, _, Try.underlying47⟩⟩
theorem tok48 : Wk.TOk Try.prog 48 ⟨.func, 1, 8, [Go.Value.nilFunc]⟩ := ⟨⟨Try.t48, _, by kernel_rfl, rfl, rfl, rfl, by kernel_rfl⟩, ⟨_, _, _, Try.underlying48⟩⟩
theorem tok49 : Wk.TOk Try.prog 49 ⟨.int Go.IntKind.u64, 1, 8, [(Go.Value.int Go.IntKind.u64 0)]⟩ := ⟨⟨Try.t49, _, by kernel_rfl, rfl, rfl, rfl, by kernel_rfl⟩, Try.underlying49⟩
theorem tok50 : Wk.TOk Try.prog 50 ⟨.func, 1, 8, [Go.Value.nilFunc]⟩ := ⟨⟨Try.t50, _, by kernel_rfl, rfl, rfl, rfl, by kernel_rfl⟩, ⟨_, _, _, Try.underlying50⟩⟩
theorem tok51 : Wk.TOk Try.prog 51 ⟨.func, 1, 8, [Go.Value.nilFunc]⟩ := ⟨⟨Try.t51, _, by kernel_rfl, rfl, rfl, rfl, by kernel_rfl⟩, ⟨_, _, _, Try.underlying51⟩⟩
theorem tok52 : Wk.TOk Try.prog 52 ⟨.func, 1, 8, [Go.Value.nilFunc]⟩ := ⟨⟨Try.t52, _, by kernel_rfl, rfl, rfl, rfl, by kernel_rfl⟩, ⟨_, _, _, Try.underlying52⟩⟩
theorem tok53 : Wk.TOk Try.prog 53 ⟨.func, 1, 8, [Go.Value.nilFunc]⟩ := ⟨⟨Try.t53, _, by kernel_rfl, rfl, rfl, rfl, by kernel_rfl⟩, ⟨_, _, _, Try.underlying53⟩⟩
theorem tok54 : Wk.TOk Try.prog 54 ⟨.ptr 57, 1, 8, [(Go.Value.pointer none)]⟩ := ⟨⟨Try.t54, _, by kernel_rfl, rfl, rfl, rfl, by kernel_rfl⟩, Try.underlying54⟩
theorem tok55 : Wk.TOk Try.prog 55 ⟨.slice 5, 1, 24, [(Go.Value.slice none 0 0)]⟩ := ⟨⟨Try.t55, _, by kernel_rfl, rfl, rfl, rfl, by kernel_rfl⟩, Try.underlying55⟩
theorem tok56 : Wk.TOk Try.prog 56 ⟨.strct [(0, 1, 54), (1, 1, 55)], 2, 32, [(Go.Value.pointer none), (Go.Value.slice none 0 0)]⟩ := ⟨⟨Try.t56, _, by kernel_rfl, rfl, rfl, rfl, by kernel_rfl⟩, ⟨_, Try.underlying56, by kernel_rfl, Try.stoodInHeld56, by kernel_rfl⟩⟩
theorem tok57 : Wk.TOk Try.prog 57 ⟨.strct [(0, 1, 54), (1, 1, 55)], 2, 32, [(Go.Value.pointer none), (Go.Value.slice none 0 0)]⟩ := ⟨⟨Try.t57, _, by kernel_rfl, rfl, rfl, rfl, by kernel_rfl⟩, ⟨_, Try.underlying57, by kernel_rfl, Try.stoodInHeld57, by kernel_rfl⟩⟩
theorem tok58 : Wk.TOk Try.prog 58 ⟨.func, 1, 8, [Go.Value.nilFunc]⟩ := ⟨⟨Try.t58, _, by kernel_rfl, rfl, rfl, rfl, by kernel_rfl⟩, ⟨_, _, _, Try.underlying58⟩⟩
theorem tok59 : Wk.TOk Try.prog 59 ⟨.func, 1, 8, [Go.Value.nilFunc]⟩ := ⟨⟨Try.t59, _, by kernel_rfl, rfl, rfl, rfl, by kernel_rfl⟩, ⟨_, _, _, Try.underlying59⟩⟩
theorem tok60 : Wk.TOk Try.prog 60 ⟨.func, 1, 8, [Go.Value.nilFunc]⟩ := ⟨⟨Try.t60, _, by kernel_rfl, rfl, rfl, rfl, by kernel_rfl⟩, ⟨_, _, _, Try.underlying60⟩⟩
theorem tok61 : Wk.TOk Try.prog 61 ⟨.strct [(0, 1, 3), (1, 1, 3), (2, 1, 3)], 3, 24, [(Go.Value.int Go.IntKind.i64 0), (Go.Value.int Go.IntKind.i64 0), (Go.Value.int Go.IntKind.i64 0)]⟩ := ⟨⟨Try.t61, _, by kernel_rfl, rfl, rfl, rfl, by kernel_rfl⟩, ⟨_, Try.underlying61, by kernel_rfl, Try.stoodInHeld61, by kernel_rfl⟩⟩
theorem tok62 : Wk.TOk Try.prog 62 ⟨.strct [(0, 1, 3), (1, 1, 3), (2, 1, 3)], 3, 24, [(Go.Value.int Go.IntKind.i64 0), (Go.Value.int Go.IntKind.i64 0), (Go.Value.int Go.IntKind.i64 0)]⟩ := ⟨⟨Try.t62, _, by kernel_rfl, rfl, rfl, rfl, by kernel_rfl⟩, ⟨_, Try.underlying62, by kernel_rfl, Try.stoodInHeld62, by kernel_rfl⟩⟩
theorem tok63 : Wk.TOk Try.prog 63 ⟨.iface, 1, 16, [Go.Value.nilIface]⟩ := ⟨⟨Try.t63, _, by kernel_rfl, rfl, rfl, rfl, by kernel_rfl⟩, ⟨_, Try.underlying63⟩⟩
theorem tok64 : Wk.TOk Try.prog 64 ⟨.iface, 1, 16, [Go.Value.nilIface]⟩ := ⟨⟨Try.t64, _, by kernel_rfl, rfl, rfl, rfl, by kernel_rfl⟩, ⟨_, Try.underlying64⟩⟩
theorem tok66 : Wk.TOk Try.prog 66 ⟨.func, 1, 8, [Go.Value.nilFunc]⟩ := ⟨⟨Try.t66, _, by kernel_rfl, rfl, rfl, rfl, by kernel_rfl⟩, ⟨_, _, _, Try.underlying66⟩⟩
theorem tok67 : Wk.TOk Try.prog 67 ⟨.func, 1, 8, [Go.Value.nilFunc]⟩ := ⟨⟨Try.t67, _, by kernel_rfl, rfl, rfl, rfl, by kernel_rfl⟩, ⟨_, _, _, Try.underlying67⟩⟩
theorem tok68 : Wk.TOk Try.prog 68 ⟨.func, 1, 8, [Go.Value.nilFunc]⟩ := ⟨⟨Try.t68, _, by kernel_rfl, rfl, rfl, rfl, by kernel_rfl⟩, ⟨_, _, _, Try.underlying68⟩⟩
theorem tok69 : Wk.TOk Try.prog 69 ⟨.func, 1, 8, [Go.Value.nilFunc]⟩ := ⟨⟨Try.t69, _, by kernel_rfl, rfl, rfl, rfl, by kernel_rfl⟩, ⟨_, _, _, Try.underlying69⟩⟩
theorem tok70 : Wk.TOk Try.prog 70 ⟨.func, 1, 8, [Go.Value.nilFunc]⟩ := ⟨⟨Try.t70, _, by kernel_rfl, rfl, rfl, rfl, by kernel_rfl⟩, ⟨_, _, _, Try.underlying70⟩⟩
theorem tok71 : Wk.TOk Try.prog 71 ⟨.func, 1, 8, [Go.Value.nilFunc]⟩ := ⟨⟨Try.t71, _, by kernel_rfl, rfl, rfl, rfl, by kernel_rfl⟩, ⟨_, _, _, Try.underlying71⟩⟩
theorem tok73 : Wk.TOk Try.prog 73 ⟨.func, 1, 8, [Go.Value.nilFunc]⟩ := ⟨⟨Try.t73, _, by kernel_rfl, rfl, rfl, rfl, by kernel_rfl⟩, ⟨_, _, _, Try.underlying73⟩⟩
theorem tok74 : Wk.TOk Try.prog 74 ⟨.func, 1, 8, [Go.Value.nilFunc]⟩ := ⟨⟨Try.t74, _, by kernel_rfl, rfl, rfl, rfl, by kernel_rfl⟩, ⟨_, _, _, Try.underlying74⟩⟩
theorem tok75 : Wk.TOk Try.prog 75 ⟨.func, 1, 8, [Go.Value.nilFunc]⟩ := ⟨⟨Try.t75, _, by kernel_rfl, rfl, rfl, rfl, by kernel_rfl⟩, ⟨_, _, _, Try.underlying75⟩⟩
theorem tok76 : Wk.TOk Try.prog 76 ⟨.arr 9 5, 9, 9, [(Go.Value.int Go.IntKind.u8 0), (Go.Value.int Go.IntKind.u8 0), (Go.Value.int Go.IntKind.u8 0), (Go.Value.int Go.IntKind.u8 0), (Go.Value.int Go.IntKind.u8 0), (Go.Value.int Go.IntKind.u8 0), (Go.Value.int Go.IntKind.u8 0), (Go.Value.int Go.IntKind.u8 0), (Go.Value.int Go.IntKind.u8 0)]⟩ := ⟨⟨Try.t76, _, by kernel_rfl, rfl, rfl, rfl, by kernel_rfl⟩, Try.underlying76⟩
theorem tok77 : Wk.TOk Try.prog 77 ⟨.int Go.IntKind.u64, 1, 8, [(Go.Value.int Go.IntKind.u64 0)]⟩ := ⟨⟨Try.t77, _, by kernel_rfl, rfl, rfl, rfl, by kernel_rfl⟩, Try.underlying77⟩
theorem tok78 : Wk.TOk Try.prog 78 ⟨.func, 1, 8, [Go.Value.nilFunc]⟩ := ⟨⟨Try.t78, _, by kernel_rfl, rfl, rfl, rfl, by kernel_rfl⟩, ⟨_, _, _, Try.underlying78⟩⟩
theorem tok79 : Wk.TOk Try.prog 79 ⟨.func, 1, 8, [Go.Value.nilFunc]⟩ := ⟨⟨Try.t79, _, by kernel_rfl, rfl, rfl, rfl, by kernel_rfl⟩, ⟨_, _, _, Try.underlying79⟩⟩
theorem tok80 : Wk.TOk Try.prog 80 ⟨.slice 62, 1, 24, [(Go.Value.slice none 0 0)]⟩ := ⟨⟨Try.t80, _, by kernel_rfl, rfl, rfl, rfl, by kernel_rfl⟩, Try.underlying80⟩
theorem tok81 : Wk.TOk Try.prog 81 ⟨.ptr 5, 1, 8, [(Go.Value.pointer none)]⟩ := ⟨⟨Try.t81, _, by kernel_rfl, rfl, rfl, rfl, by kernel_rfl⟩, Try.underlying81⟩
theorem tok83 : Wk.TOk Try.prog 83 ⟨.func, 1, 8, [Go.Value.nilFunc]⟩ := ⟨⟨Try.t83, _, by kernel_rfl, rfl, rfl, rfl, by kernel_rfl⟩, ⟨_, _, _, Try.underlying83⟩⟩
theorem tok85 : Wk.TOk Try.prog 85 ⟨.func, 1, 8, [Go.Value.nilFunc]⟩ := ⟨⟨Try.t85, _, by kernel_rfl, rfl, rfl, rfl, by kernel_rfl⟩, ⟨_, _, _, Try.underlying85⟩⟩
theorem tok86 : Wk.TOk Try.prog 86 ⟨.strct [(0, 1, 25)], 1, 8, [(Go.Value.int Go.IntKind.i64 0)]⟩ := ⟨⟨Try.t86, _, by kernel_rfl, rfl, rfl, rfl, by kernel_rfl⟩, ⟨_, Try.underlying86, by kernel_rfl, Try.stoodInHeld86, by kernel_rfl⟩⟩
theorem tok87 : Wk.TOk Try.prog 87 ⟨.strct [(0, 1, 25)], 1, 8, [(Go.Value.int Go.IntKind.i64 0)]⟩ := ⟨⟨Try.t87, _, by kernel_rfl, rfl, rfl, rfl, by kernel_rfl⟩, ⟨_, Try.underlying87, by kernel_rfl, Try.stoodInHeld87, by kernel_rfl⟩⟩
theorem tok89 : Wk.TOk Try.prog 89 ⟨.func, 1, 8, [Go.Value.nilFunc]⟩ := ⟨⟨Try.t89, _, by kernel_rfl, rfl, rfl, rfl, by kernel_rfl⟩, ⟨_, _, _, Try.underlying89⟩⟩
theorem tok91 : Wk.TOk Try.prog 91 ⟨.func, 1, 8, [Go.Value.nilFunc]⟩ := ⟨⟨Try.t91, _, by kernel_rfl, rfl, rfl, rfl, by kernel_rfl⟩, ⟨_, _, _, Try.underlying91⟩⟩
theorem tok92 : Wk.TOk Try.prog 92 ⟨.func, 1, 8, [Go.Value.nilFunc]⟩ := ⟨⟨Try.t92, _, by kernel_rfl, rfl, rfl, rfl, by kernel_rfl⟩, ⟨_, _, _, Try.underlying92⟩⟩
theorem tok93 : Wk.TOk Try.prog 93 ⟨.func, 1, 8, [Go.Value.nilFunc]⟩ := ⟨⟨Try.t93, _, by kernel_rfl, rfl, rfl, rfl, by kernel_rfl⟩, ⟨_, _, _, Try.underlying93⟩⟩
theorem tok94 : Wk.TOk Try.prog 94 ⟨.func, 1, 8, [Go.Value.nilFunc]⟩ := ⟨⟨Try.t94, _, by kernel_rfl, rfl, rfl, rfl, by kernel_rfl⟩, ⟨_, _, _, Try.underlying94⟩⟩
theorem tok95 : Wk.TOk Try.prog 95 ⟨.func, 1, 8, [Go.Value.nilFunc]⟩ := ⟨⟨Try.t95, _, by kernel_rfl, rfl, rfl, rfl, by kernel_rfl⟩, ⟨_, _, _, Try.underlying95⟩⟩
theorem tok97 : Wk.TOk Try.prog 97 ⟨.func, 1, 8, [Go.Value.nilFunc]⟩ := ⟨⟨Try.t97, _, by kernel_rfl, rfl, rfl, rfl, by kernel_rfl⟩, ⟨_, _, _, Try.underlying97⟩⟩
theorem tok100 : Wk.TOk Try.prog 100 ⟨.arr 0 16, 0, 0, []⟩ := ⟨⟨Try.t100, _, by kernel_rfl, rfl, rfl, rfl, by kernel_rfl⟩, Try.underlying100⟩
theorem tok103 : Wk.TOk Try.prog 103 ⟨.int Go.IntKind.u32, 1, 4, [(Go.Value.int Go.IntKind.u32 0)]⟩ := ⟨⟨Try.t103, _, by kernel_rfl, rfl, rfl, rfl, by kernel_rfl⟩, Try.underlying103⟩
theorem tok104 : Wk.TOk Try.prog 104 ⟨.int Go.IntKind.u8, 1, 1, [(Go.Value.int Go.IntKind.u8 0)]⟩ := ⟨⟨Try.t104, _, by kernel_rfl, rfl, rfl, rfl, by kernel_rfl⟩, Try.underlying104⟩
theorem tok105 : Wk.TOk Try.prog 105 ⟨.int Go.IntKind.u8, 1, 1, [(Go.Value.int Go.IntKind.u8 0)]⟩ := ⟨⟨Try.t105, _, by kernel_rfl, rfl, rfl, rfl, by kernel_rfl⟩, Try.underlying105⟩
theorem tok106 : Wk.TOk Try.prog 106 ⟨.func, 1, 8, [Go.Value.nilFunc]⟩ := ⟨⟨Try.t106, _, by kernel_rfl, rfl, rfl, rfl, by kernel_rfl⟩, ⟨_, _, _, Try.underlying106⟩⟩
theorem tok107 : Wk.TOk Try.prog 107 ⟨.int Go.IntKind.i32, 1, 4, [(Go.Value.int Go.IntKind.i32 0)]⟩ := ⟨⟨Try.t107, _, by kernel_rfl, rfl, rfl, rfl, by kernel_rfl⟩, Try.underlying107⟩
theorem tok108 : Wk.TOk Try.prog 108 ⟨.int Go.IntKind.i32, 1, 4, [(Go.Value.int Go.IntKind.i32 0)]⟩ := ⟨⟨Try.t108, _, by kernel_rfl, rfl, rfl, rfl, by kernel_rfl⟩, Try.underlying108⟩
theorem okT : Wk.Ok Try.prog TT := Wk.ok_of TTl ⟨tok1, tok2, tok3, tok4, tok5, tok6, tok7, tok8, tok9, tok10, tok11, tok12, tok15, tok16, tok17, tok20, tok21, tok22, tok23, tok24, tok25, tok27, tok28, tok29, tok30, tok31, tok32, tok33, tok34, tok35, tok36, tok37, tok39, tok40, tok42, tok43, tok45, tok46, tok47, tok48, tok49, tok50, tok51, tok52, tok53, tok54, tok55, tok56, tok57, tok58, tok59, tok60, tok61, tok62, tok63, tok64, tok66, tok67, tok68, tok69, tok70, tok71, tok73, tok74, tok75, tok76, tok77, tok78, tok79, tok80, tok81, tok83, tok85, tok86, tok87, tok89, tok91, tok92, tok93, tok94, tok95, tok97, tok100, tok103, tok104, tok105, tok106, tok107, tok108, trivial⟩ (by kernel_rfl) (by kernel_rfl)
theorem fok3 : Wk.FOk Try.prog 3 := ⟨Try.f3, Try.func3, by kernel_rfl, by kernel_rfl⟩
theorem fok4 : Wk.FOk Try.prog 4 := ⟨Try.f4, Try.func4, by kernel_rfl, by kernel_rfl⟩
theorem fok5 : Wk.FOk Try.prog 5 := ⟨Try.f5, Try.func5, by kernel_rfl, by kernel_rfl⟩
theorem fok6 : Wk.FOk Try.prog 6 := ⟨Try.f6, Try.func6, by kernel_rfl, by kernel_rfl⟩
theorem fok7 : Wk.FOk Try.prog 7 := ⟨Try.f7, Try.func7, by kernel_rfl, by kernel_rfl⟩
theorem fok8 : Wk.FOk Try.prog 8 := ⟨Try.f8, Try.func8, by kernel_rfl, by kernel_rfl⟩
theorem fok9 : Wk.FOk Try.prog 9 := ⟨Try.f9, Try.func9, by kernel_rfl, by kernel_rfl⟩
theorem fok10 : Wk.FOk Try.prog 10 := ⟨Try.f10, Try.func10, by kernel_rfl, by kernel_rfl⟩
theorem fok11 : Wk.FOk Try.prog 11 := ⟨Try.f11, Try.func11, by kernel_rfl, by kernel_rfl⟩
theorem fok12 : Wk.FOk Try.prog 12 := ⟨Try.f12, Try.func12, by kernel_rfl, by kernel_rfl⟩
theorem fok13 : Wk.FOk Try.prog 13 := ⟨Try.f13, Try.func13, by kernel_rfl, by kernel_rfl⟩
theorem fok14 : Wk.FOk Try.prog 14 := ⟨Try.f14, Try.func14, by kernel_rfl, by kernel_rfl⟩
theorem fok15 : Wk.FOk Try.prog 15 := ⟨Try.f15, Try.func15, by kernel_rfl, by kernel_rfl⟩
theorem fok16 : Wk.FOk Try.prog 16 := ⟨Try.f16, Try.func16, by kernel_rfl, by kernel_rfl⟩
theorem fok17 : Wk.FOk Try.prog 17 := ⟨Try.f17, Try.func17, by kernel_rfl, by kernel_rfl⟩
theorem fok18 : Wk.FOk Try.prog 18 := ⟨Try.f18, Try.func18, by kernel_rfl, by kernel_rfl⟩
theorem fok19 : Wk.FOk Try.prog 19 := ⟨Try.f19, Try.func19, by kernel_rfl, by kernel_rfl⟩
theorem fok20 : Wk.FOk Try.prog 20 := ⟨Try.f20, Try.func20, by kernel_rfl, by kernel_rfl⟩
theorem fok21 : Wk.FOk Try.prog 21 := ⟨Try.f21, Try.func21, by kernel_rfl, by kernel_rfl⟩
theorem fok22 : Wk.FOk Try.prog 22 := ⟨Try.f22, Try.func22, by kernel_rfl, by kernel_rfl⟩
theorem fok23 : Wk.FOk Try.prog 23 := ⟨Try.f23, Try.func23, by kernel_rfl, by kernel_rfl⟩
theorem fok24 : Wk.FOk Try.prog 24 := ⟨Try.f24, Try.func24, by kernel_rfl, by kernel_rfl⟩
theorem fok25 : Wk.FOk Try.prog 25 := ⟨Try.f25, Try.func25, by kernel_rfl, by kernel_rfl⟩
theorem fok26 : Wk.FOk Try.prog 26 := ⟨Try.f26, Try.func26, by kernel_rfl, by kernel_rfl⟩
theorem fok27 : Wk.FOk Try.prog 27 := ⟨Try.f27, Try.func27, by kernel_rfl, by kernel_rfl⟩
theorem fok28 : Wk.FOk Try.prog 28 := ⟨Try.f28, Try.func28, by kernel_rfl, by kernel_rfl⟩
theorem fok29 : Wk.FOk Try.prog 29 := ⟨Try.f29, Try.func29, by kernel_rfl, by kernel_rfl⟩
theorem fok30 : Wk.FOk Try.prog 30 := ⟨Try.f30, Try.func30, by kernel_rfl, by kernel_rfl⟩
theorem fok31 : Wk.FOk Try.prog 31 := ⟨Try.f31, Try.func31, by kernel_rfl, by kernel_rfl⟩
theorem fok32 : Wk.FOk Try.prog 32 := ⟨Try.f32, Try.func32, by kernel_rfl, by kernel_rfl⟩
theorem fok33 : Wk.FOk Try.prog 33 := ⟨Try.f33, Try.func33, by kernel_rfl, by kernel_rfl⟩
theorem fok34 : Wk.FOk Try.prog 34 := ⟨Try.f34, Try.func34, by kernel_rfl, by kernel_rfl⟩
theorem fok35 : Wk.FOk Try.prog 35 := ⟨Try.f35, Try.func35, by kernel_rfl, by kernel_rfl⟩
theorem fok36 : Wk.FOk Try.prog 36 := ⟨Try.f36, Try.func36, by kernel_rfl, by kernel_rfl⟩
theorem fok37 : Wk.FOk Try.prog 37 := ⟨Try.f37, Try.func37, by kernel_rfl, by kernel_rfl⟩
theorem fok38 : Wk.FOk Try.prog 38 := ⟨Try.f38, Try.func38, by kernel_rfl, by kernel_rfl⟩
theorem fok39 : Wk.FOk Try.prog 39 := ⟨Try.f39, Try.func39, by kernel_rfl, by kernel_rfl⟩
theorem fok40 : Wk.FOk Try.prog 40 := ⟨Try.f40, Try.func40, by kernel_rfl, by kernel_rfl⟩
theorem fok41 : Wk.FOk Try.prog 41 := ⟨Try.f41, Try.func41, by kernel_rfl, by kernel_rfl⟩
theorem fok42 : Wk.FOk Try.prog 42 := ⟨Try.f42, Try.func42, by kernel_rfl, by kernel_rfl⟩
theorem fok43 : Wk.FOk Try.prog 43 := ⟨Try.f43, Try.func43, by kernel_rfl, by kernel_rfl⟩
theorem fok44 : Wk.FOk Try.prog 44 := ⟨Try.f44, Try.func44, by kernel_rfl, by kernel_rfl⟩
theorem fok45 : Wk.FOk Try.prog 45 := ⟨Try.f45, Try.func45, by kernel_rfl, by kernel_rfl⟩
theorem fok46 : Wk.FOk Try.prog 46 := ⟨Try.f46, Try.func46, by kernel_rfl, by kernel_rfl⟩
theorem fok47 : Wk.FOk Try.prog 47 := ⟨Try.f47, Try.func47, by kernel_rfl, by kernel_rfl⟩
theorem fok48 : Wk.FOk Try.prog 48 := ⟨Try.f48, Try.func48, by kernel_rfl, by kernel_rfl⟩
theorem fok49 : Wk.FOk Try.prog 49 := ⟨Try.f49, Try.func49, by kernel_rfl, by kernel_rfl⟩
theorem fok50 : Wk.FOk Try.prog 50 := ⟨Try.f50, Try.func50, by kernel_rfl, by kernel_rfl⟩
theorem fok51 : Wk.FOk Try.prog 51 := ⟨Try.f51, Try.func51, by kernel_rfl, by kernel_rfl⟩
theorem fok52 : Wk.FOk Try.prog 52 := ⟨Try.f52, Try.func52, by kernel_rfl, by kernel_rfl⟩
theorem fok53 : Wk.FOk Try.prog 53 := ⟨Try.f53, Try.func53, by kernel_rfl, by kernel_rfl⟩
theorem fok54 : Wk.FOk Try.prog 54 := ⟨Try.f54, Try.func54, by kernel_rfl, by kernel_rfl⟩
theorem fok55 : Wk.FOk Try.prog 55 := ⟨Try.f55, Try.func55, by kernel_rfl, by kernel_rfl⟩
theorem fok56 : Wk.FOk Try.prog 56 := ⟨Try.f56, Try.func56, by kernel_rfl, by kernel_rfl⟩
theorem fok57 : Wk.FOk Try.prog 57 := ⟨Try.f57, Try.func57, by kernel_rfl, by kernel_rfl⟩
theorem fok58 : Wk.FOk Try.prog 58 := ⟨Try.f58, Try.func58, by kernel_rfl, by kernel_rfl⟩
theorem fok59 : Wk.FOk Try.prog 59 := ⟨Try.f59, Try.func59, by kernel_rfl, by kernel_rfl⟩
theorem fok60 : Wk.FOk Try.prog 60 := ⟨Try.f60, Try.func60, by kernel_rfl, by kernel_rfl⟩
theorem fok61 : Wk.FOk Try.prog 61 := ⟨Try.f61, Try.func61, by kernel_rfl, by kernel_rfl⟩
theorem fok62 : Wk.FOk Try.prog 62 := ⟨Try.f62, Try.func62, by kernel_rfl, by kernel_rfl⟩
theorem fok63 : Wk.FOk Try.prog 63 := ⟨Try.f63, Try.func63, by kernel_rfl, by kernel_rfl⟩
theorem fok66 : Wk.FOk Try.prog 66 := ⟨Try.f66, Try.func66, by kernel_rfl, by kernel_rfl⟩
theorem fok67 : Wk.FOk Try.prog 67 := ⟨Try.f67, Try.func67, by kernel_rfl, by kernel_rfl⟩
theorem fok68 : Wk.FOk Try.prog 68 := ⟨Try.f68, Try.func68, by kernel_rfl, by kernel_rfl⟩
theorem fok70 : Wk.FOk Try.prog 70 := ⟨Try.f70, Try.func70, by kernel_rfl, by kernel_rfl⟩
theorem fok71 : Wk.FOk Try.prog 71 := ⟨Try.f71, Try.func71, by kernel_rfl, by kernel_rfl⟩
theorem fok72 : Wk.FOk Try.prog 72 := ⟨Try.f72, Try.func72, by kernel_rfl, by kernel_rfl⟩
theorem fok73 : Wk.FOk Try.prog 73 := ⟨Try.f73, Try.func73, by kernel_rfl, by kernel_rfl⟩
end Go.Proofs.Ytfobkimmpiahjaa
