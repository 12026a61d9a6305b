/-
  The table of the types of this seat's program, for the walking layer: made by a program (mkseat.py).
-/
import Derived.Test.YtechabbdobbooaaRows
import Derived.Test.YtechabbdobbooaaGs
import Derived.KernelRfl
namespace Go.Proofs.Ytechabbdobbooaa
open Go
def TTl : List (Option Wk.TI) := [
  none,
  some ⟨.func, 1, 8, [Go.Value.nilFunc]⟩,
  some ⟨.int Go.IntKind.i64, 1, 8, [(Go.Value.int Go.IntKind.i64 0)]⟩,
  some ⟨.int Go.IntKind.i64, 1, 8, [(Go.Value.int Go.IntKind.i64 0)]⟩,
  some ⟨.bool, 1, 1, [(Go.Value.bool false)]⟩,
  some ⟨.int Go.IntKind.u8, 1, 1, [(Go.Value.int Go.IntKind.u8 0)]⟩,
  some ⟨.int Go.IntKind.u8, 1, 1, [(Go.Value.int Go.IntKind.u8 0)]⟩,
  some ⟨.strct [(0, 1, 2), (1, 1, 3), (2, 1, 4), (3, 1, 6)], 4, 24, [(Go.Value.int Go.IntKind.i64 0), (Go.Value.int Go.IntKind.i64 0), (Go.Value.bool false), (Go.Value.int Go.IntKind.u8 0)]⟩,
  some ⟨.strct [(0, 1, 2), (1, 1, 3), (2, 1, 4), (3, 1, 6)], 4, 24, [(Go.Value.int Go.IntKind.i64 0), (Go.Value.int Go.IntKind.i64 0), (Go.Value.bool false), (Go.Value.int Go.IntKind.u8 0)]⟩,
  some ⟨.string, 1, 16, [(Go.Value.string { data := #[] })]⟩,
  some ⟨.string, 1, 16, [(Go.Value.string { data := #[] })]⟩,
  some ⟨.string, 1, 16, [(Go.Value.string { data := #[] })]⟩,
  some ⟨.int Go.IntKind.u64, 1, 8, [(Go.Value.int Go.IntKind.u64 0)]⟩,
  none,
  none,
  some ⟨.ptr 72, 1, 8, [(Go.Value.pointer none)]⟩,
  some ⟨.ptr 75, 1, 8, [(Go.Value.pointer none)]⟩,
  some ⟨.ptr 84, 1, 8, [(Go.Value.pointer none)]⟩,
  none,
  none,
  some ⟨.iface, 1, 16, [Go.Value.nilIface]⟩,
  some ⟨.int Go.IntKind.i32, 1, 4, [(Go.Value.int Go.IntKind.i32 0)]⟩,
  some ⟨.slice 3, 1, 24, [(Go.Value.slice none 0 0)]⟩,
  some ⟨.func, 1, 8, [Go.Value.nilFunc]⟩,
  some ⟨.ptr 59, 1, 8, [(Go.Value.pointer none)]⟩,
  some ⟨.func, 1, 8, [Go.Value.nilFunc]⟩,
  some ⟨.int Go.IntKind.u64, 1, 8, [(Go.Value.int Go.IntKind.u64 0)]⟩,
  some ⟨.func, 1, 8, [Go.Value.nilFunc]⟩,
  some ⟨.int Go.IntKind.i64, 1, 8, [(Go.Value.int Go.IntKind.i64 0)]⟩,
  some ⟨.func, 1, 8, [Go.Value.nilFunc]⟩,
  some ⟨.func, 1, 8, [Go.Value.nilFunc]⟩,
  some ⟨.slice 5, 1, 24, [(Go.Value.slice none 0 0)]⟩,
  some ⟨.slice 37, 1, 24, [(Go.Value.slice none 0 0)]⟩,
  some ⟨.ptr 62, 1, 8, [(Go.Value.pointer none)]⟩,
  none,
  some ⟨.func, 1, 8, [Go.Value.nilFunc]⟩,
  some ⟨.strct [(0, 1, 5), (1, 1, 3), (2, 1, 3), (3, 1, 3)], 4, 32, [(Go.Value.int Go.IntKind.u8 0), (Go.Value.int Go.IntKind.i64 0), (Go.Value.int Go.IntKind.i64 0), (Go.Value.int Go.IntKind.i64 0)]⟩,
  some ⟨.strct [(0, 1, 5), (1, 1, 3), (2, 1, 3), (3, 1, 3)], 4, 32, [(Go.Value.int Go.IntKind.u8 0), (Go.Value.int Go.IntKind.i64 0), (Go.Value.int Go.IntKind.i64 0), (Go.Value.int Go.IntKind.i64 0)]⟩,
  some ⟨.func, 1, 8, [Go.Value.nilFunc]⟩,
  some ⟨.func, 1, 8, [Go.Value.nilFunc]⟩,
  some ⟨.slice 43, 1, 24, [(Go.Value.slice none 0 0)]⟩,
  none,
  some ⟨.func, 1, 8, [Go.Value.nilFunc]⟩,
  some ⟨.arr 3 3, 3, 24, [(Go.Value.int Go.IntKind.i64 0), (Go.Value.int Go.IntKind.i64 0), (Go.Value.int Go.IntKind.i64 0)]⟩,
  some ⟨.func, 1, 8, [Go.Value.nilFunc]⟩,
  some ⟨.ptr 50, 1, 8, [(Go.Value.pointer none)]⟩,
  some ⟨.func, 1, 8, [Go.Value.nilFunc]⟩,
  some ⟨.func, 1, 8, [Go.Value.nilFunc]⟩,
  some ⟨.ptr 67, 1, 8, [(Go.Value.pointer none)]⟩,
  some ⟨.strct [(0, 1, 3), (1, 1, 3), (2, 1, 3), (3, 1, 48)], 4, 32, [(Go.Value.int Go.IntKind.i64 0), (Go.Value.int Go.IntKind.i64 0), (Go.Value.int Go.IntKind.i64 0), (Go.Value.pointer none)]⟩,
  some ⟨.strct [(0, 1, 3), (1, 1, 3), (2, 1, 3), (3, 1, 48)], 4, 32, [(Go.Value.int Go.IntKind.i64 0), (Go.Value.int Go.IntKind.i64 0), (Go.Value.int Go.IntKind.i64 0), (Go.Value.pointer none)]⟩,
  some ⟨.func, 1, 8, [Go.Value.nilFunc]⟩,
  some ⟨.func, 1, 8, [Go.Value.nilFunc]⟩,
  some ⟨.func, 1, 8, [Go.Value.nilFunc]⟩,
  some ⟨.slice 28, 1, 24, [(Go.Value.slice none 0 0)]⟩,
  some ⟨.int Go.IntKind.u64, 1, 8, [(Go.Value.int Go.IntKind.u64 0)]⟩,
  some ⟨.strct [(0, 1, 3), (1, 1, 55)], 2, 16, [(Go.Value.int Go.IntKind.i64 0), (Go.Value.int Go.IntKind.u64 0)]⟩,
  some ⟨.strct [(0, 1, 3), (1, 1, 55)], 2, 16, [(Go.Value.int Go.IntKind.i64 0), (Go.Value.int Go.IntKind.u64 0)]⟩,
  some ⟨.strct [(0, 2, 57)], 2, 16, [(Go.Value.int Go.IntKind.i64 0), (Go.Value.int Go.IntKind.u64 0)]⟩,
  some ⟨.strct [(0, 2, 57)], 2, 16, [(Go.Value.int Go.IntKind.i64 0), (Go.Value.int Go.IntKind.u64 0)]⟩,
  some ⟨.func, 1, 8, [Go.Value.nilFunc]⟩,
  some ⟨.strct [(0, 1, 24), (1, 1, 3), (2, 1, 3), (3, 1, 3)], 4, 32, [(Go.Value.pointer none), (Go.Value.int Go.IntKind.i64 0), (Go.Value.int Go.IntKind.i64 0), (Go.Value.int Go.IntKind.i64 0)]⟩,
  some ⟨.strct [(0, 1, 24), (1, 1, 3), (2, 1, 3), (3, 1, 3)], 4, 32, [(Go.Value.pointer none), (Go.Value.int Go.IntKind.i64 0), (Go.Value.int Go.IntKind.i64 0), (Go.Value.int Go.IntKind.i64 0)]⟩,
  some ⟨.func, 1, 8, [Go.Value.nilFunc]⟩,
  some ⟨.func, 1, 8, [Go.Value.nilFunc]⟩,
  some ⟨.func, 1, 8, [Go.Value.nilFunc]⟩,
  some ⟨.strct [(0, 1, 22)], 1, 24, [(Go.Value.slice none 0 0)]⟩,
  some ⟨.strct [(0, 1, 22)], 1, 24, [(Go.Value.slice none 0 0)]⟩,
  some ⟨.func, 1, 8, [Go.Value.nilFunc]⟩,
  some ⟨.func, 1, 8, [Go.Value.nilFunc]⟩,
  some ⟨.func, 1, 8, [Go.Value.nilFunc]⟩,
  none,
  none,
  some ⟨.arr 0 16, 0, 0, []⟩,
  none,
  none,
  some ⟨.int Go.IntKind.u32, 1, 4, [(Go.Value.int Go.IntKind.u32 0)]⟩,
  some ⟨.int Go.IntKind.u8, 1, 1, [(Go.Value.int Go.IntKind.u8 0)]⟩,
  some ⟨.int Go.IntKind.u8, 1, 1, [(Go.Value.int Go.IntKind.u8 0)]⟩,
  some ⟨.func, 1, 8, [Go.Value.nilFunc]⟩,
  some ⟨.ptr 5, 1, 8, [(Go.Value.pointer none)]⟩,
  some ⟨.int Go.IntKind.i32, 1, 4, [(Go.Value.int Go.IntKind.i32 0)]⟩,
  some ⟨.int Go.IntKind.i32, 1, 4, [(Go.Value.int Go.IntKind.i32 0)]⟩]
def TT : Wk.Tab := Wk.nth TTl
theorem TT_eq (t : Nat) : TT t = Wk.nth TTl t := rfl
theorem tok1 : Wk.TOk Try.prog 1 ⟨.func, 1, 8, [Go.Value.nilFunc]⟩ := ⟨⟨Try.t1, _, by kernel_rfl, rfl, rfl, rfl, by kernel_rfl⟩, ⟨_, _, _, Try.underlying1⟩⟩
theorem tok2 : Wk.TOk Try.prog 2 ⟨.int Go.IntKind.i64, 1, 8, [(Go.Value.int Go.IntKind.i64 0)]⟩ := ⟨⟨Try.t2, _, by kernel_rfl, rfl, rfl, rfl, by kernel_rfl⟩, Try.underlying2⟩
theorem tok3 : Wk.TOk Try.prog 3 ⟨.int Go.IntKind.i64, 1, 8, [(Go.Value.int Go.IntKind.i64 0)]⟩ := ⟨⟨Try.t3, _, by kernel_rfl, rfl, rfl, rfl, by kernel_rfl⟩, Try.underlying3⟩
theorem tok4 : Wk.TOk Try.prog 4 ⟨.bool, 1, 1, [(Go.Value.bool false)]⟩ := ⟨⟨Try.t4, _, by kernel_rfl, rfl, rfl, rfl, by kernel_rfl⟩, Try.underlying4⟩
theorem tok5 : Wk.TOk Try.prog 5 ⟨.int Go.IntKind.u8, 1, 1, [(Go.Value.int Go.IntKind.u8 0)]⟩ := ⟨⟨Try.t5, _, by kernel_rfl, rfl, rfl, rfl, by kernel_rfl⟩, Try.underlying5⟩
theorem tok6 : Wk.TOk Try.prog 6 ⟨.int Go.IntKind.u8, 1, 1, [(Go.Value.int Go.IntKind.u8 0)]⟩ := ⟨⟨Try.t6, _, by kernel_rfl, rfl, rfl, rfl, by kernel_rfl⟩, Try.underlying6⟩
theorem tok7 : Wk.TOk Try.prog 7 ⟨.strct [(0, 1, 2), (1, 1, 3), (2, 1, 4), (3, 1, 6)], 4, 24, [(Go.Value.int Go.IntKind.i64 0), (Go.Value.int Go.IntKind.i64 0), (Go.Value.bool false), (Go.Value.int Go.IntKind.u8 0)]⟩ := ⟨⟨Try.t7, _, by kernel_rfl, rfl, rfl, rfl, by kernel_rfl⟩, ⟨_, Try.underlying7, by kernel_rfl, Try.stoodInHeld7, by kernel_rfl⟩⟩
theorem tok8 : Wk.TOk Try.prog 8 ⟨.strct [(0, 1, 2), (1, 1, 3), (2, 1, 4), (3, 1, 6)], 4, 24, [(Go.Value.int Go.IntKind.i64 0), (Go.Value.int Go.IntKind.i64 0), (Go.Value.bool false), (Go.Value.int Go.IntKind.u8 0)]⟩ := ⟨⟨Try.t8, _, by kernel_rfl, rfl, rfl, rfl, by kernel_rfl⟩, ⟨_, Try.underlying8, by kernel_rfl, Try.stoodInHeld8, by kernel_rfl⟩⟩
theorem tok9 : Wk.TOk Try.prog 9 ⟨.string, 1, 16, [(Go.Value.string { data := #[] })]⟩ := ⟨⟨Try.t9, _, by kernel_rfl, rfl, rfl, rfl, by kernel_rfl⟩, Try.underlying9⟩
theorem tok10 : Wk.TOk Try.prog 10 ⟨.string, 1, 16, [(Go.Value.string { data := #[] })]⟩ := ⟨⟨Try.t10, _, by kernel_rfl, rfl, rfl, rfl, by kernel_rfl⟩, Try.underlying10⟩
theorem tok11 : Wk.TOk Try.prog 11 ⟨.string, 1, 16, [(Go.Value.string { data := #[] })]⟩ := ⟨⟨Try.t11, _, by kernel_rfl, rfl, rfl, rfl, by kernel_rfl⟩, Try.underlying11⟩
theorem tok12 : Wk.TOk Try.prog 12 ⟨.int Go.IntKind.u64, 1, 8, [(Go.Value.int Go.IntKind.u64 0)]⟩ := ⟨⟨Try.t12, _, by kernel_rfl, rfl, rfl, rfl, by kernel_rfl⟩, Try.underlying12⟩
theorem tok15 : Wk.TOk Try.prog 15 ⟨.ptr 72, 1, 8, [(Go.Value.pointer none)]⟩ := ⟨⟨Try.t15, _, by kernel_rfl, rfl, rfl, rfl, by kernel_rfl⟩, Try.underlying15⟩
theorem tok16 : Wk.TOk Try.prog 16 ⟨.ptr 75, 1, 8, [(Go.Value.pointer none)]⟩ := ⟨⟨Try.t16, _, by kernel_rfl, rfl, rfl, rfl, by kernel_rfl⟩, Try.underlying16⟩
theorem tok17 : Wk.TOk Try.prog 17 ⟨.ptr 84, 1, 8, [(Go.Value.pointer none)]⟩ := ⟨⟨Try.t17, _, by kernel_rfl, rfl, rfl, rfl, by kernel_rfl⟩, Try.underlying17⟩
theorem tok20 : Wk.TOk Try.prog 20 ⟨.iface, 1, 16, [Go.Value.nilIface]⟩ := ⟨⟨Try.t20, _, by kernel_rfl, rfl, rfl, rfl, by kernel_rfl⟩, ⟨_, Try.underlying20⟩⟩
theorem tok21 : Wk.TOk Try.prog 21 ⟨.int Go.IntKind.i32, 1, 4, [(Go.Value.int Go.IntKind.i32 0)]⟩ := ⟨⟨Try.t21, _, by kernel_rfl, rfl, rfl, rfl, by kernel_rfl⟩, Try.underlying21⟩
theorem tok22 : Wk.TOk Try.prog 22 ⟨.slice 3, 1, 24, [(Go.Value.slice none 0 0)]⟩ := ⟨⟨Try.t22, _, by kernel_rfl, rfl, rfl, rfl, by kernel_rfl⟩, Try.underlying22⟩
theorem tok23 : Wk.TOk Try.prog 23 ⟨.func, 1, 8, [Go.Value.nilFunc]⟩ := ⟨⟨Try.t23, _, by kernel_rfl, rfl, rfl, rfl, by kernel_rfl⟩, ⟨_, _, _, Try.underlying23⟩⟩
theorem tok24 : Wk.TOk Try.prog 24 ⟨.ptr 59, 1, 8, [(Go.Value.pointer none)]⟩ := ⟨⟨Try.t24, _, by kernel_rfl, rfl, rfl, rfl, by kernel_rfl⟩, Try.underlying24⟩
theorem tok25 : Wk.TOk Try.prog 25 ⟨.func, 1, 8, [Go.Value.nilFunc]⟩ := ⟨⟨Try.t25, _, by kernel_rfl, rfl, rfl, rfl, by kernel_rfl⟩, ⟨_, _, _, Try.underlying25⟩⟩
theorem tok26 : Wk.TOk Try.prog 26 ⟨.int Go.IntKind.u64, 1, 8, [(Go.Value.int Go.IntKind.u64 0)]⟩ := ⟨⟨Try.t26, _, by kernel_rfl, rfl, rfl, rfl, by kernel_rfl⟩, Try.underlying26⟩
theorem tok27 : Wk.TOk Try.prog 27 ⟨.func, 1, 8, [Go.Value.nilFunc]⟩ := ⟨⟨Try.t27, _, by kernel_rfl, rfl, rfl, rfl, by kernel_rfl⟩, ⟨_, _, _, Try.underlying27⟩⟩
theorem tok28 : Wk.TOk Try.prog 28 ⟨.int Go.IntKind.i64, 1, 8, [(Go.Value.int Go.IntKind.i64 0)]⟩ := ⟨⟨Try.t28, _, by kernel_rfl, rfl, rfl, rfl, by kernel_rfl⟩, Try.underlying28⟩
theorem tok29 : Wk.TOk Try.prog 29 ⟨.func, 1, 8, [Go.Value.nilFunc]⟩ := ⟨⟨Try.t29, _, by kernel_rfl, rfl, rfl, rfl, by kernel_rfl⟩, ⟨_, _, _, Try.underlying29⟩⟩
theorem tok30 : Wk.TOk Try.prog 30 ⟨.func, 1, 8, [Go.Value.nilFunc]⟩ := ⟨⟨Try.t30, _, by kernel_rfl, rfl, rfl, rfl, by kernel_rfl⟩, ⟨_, _, _, Try.underlying30⟩⟩
theorem tok31 : Wk.TOk Try.prog 31 ⟨.slice 5, 1, 24, [(Go.Value.slice none 0 0)]⟩ := ⟨⟨Try.t31, _, by kernel_rfl, rfl, rfl, rfl, by kernel_rfl⟩, Try.underlying31⟩
theorem tok32 : Wk.TOk Try.prog 32 ⟨.slice 37, 1, 24, [(Go.Value.slice none 0 0)]⟩ := ⟨⟨Try.t32, _, by kernel_rfl, rfl, rfl, rfl, by kernel_rfl⟩, Try.underlying32⟩
theorem tok33 : Wk.TOk Try.prog 33 ⟨.ptr 62, 1, 8, [(Go.Value.pointer none)]⟩ := ⟨⟨Try.t33, _, by kernel_rfl, rfl, rfl, rfl, by kernel_rfl⟩, Try.underlying33⟩
theorem tok35 : Wk.TOk Try.prog 35 ⟨.func, 1, 8, [Go.Value.nilFunc]⟩ := ⟨⟨Try.t35, _, by kernel_rfl, rfl, rfl, rfl, by kernel_rfl⟩, ⟨_, _, _, Try.underlying35⟩⟩
theorem tok36 : Wk.TOk Try.prog 36 ⟨.strct [(0, 1, 5), (1, 1, 3), (2, 1, 3), (3, 1, 3)], 4, 32, [(Go.Value.int Go.IntKind.u8 0), (Go.Value.int Go.IntKind.i64 0), (Go.Value.int Go.IntKind.i64 0), (Go.Value.int Go.IntKind.i64 0)]⟩ := ⟨⟨Try.t36, _, by kernel_rfl, rfl, rfl, rfl, by kernel_rfl⟩, ⟨_, Try.underlying36, by kernel_rfl, Try.stoodInHeld36, by kernel_rfl⟩⟩
theorem tok37 : Wk.TOk Try.prog 37 ⟨.strct [(0, 1, 5), (1, 1, 3), (2, 1, 3), (3, 1, 3)], 4, 32, [(Go.Value.int Go.IntKind.u8 0), (Go.Value.int Go.IntKind.i64 0), (Go.Value.int Go.IntKind.i64 0), (Go.Value.int Go.IntKind.i64 0)]⟩ := ⟨⟨Try.t37, _, by kernel_rfl, rfl, rfl, rfl, by kernel_rfl⟩, ⟨_, Try.underlying37, by kernel_rfl, Try.stoodInHeld37, by kernel_rfl⟩⟩
theorem tok38 : Wk.TOk Try.prog 38 ⟨.func, 1, 8, [Go.Value.nilFunc]⟩ := ⟨⟨Try.t38, _, by kernel_rfl, rfl, rfl, rfl, by kernel_rfl⟩, ⟨_, _, _, Try.underlying38⟩⟩
theorem tok39 : Wk.TOk Try.prog 39 ⟨.func, 1, 8, [Go.Value.nilFunc]⟩ := ⟨⟨Try.t39, _, by kernel_rfl, rfl, rfl, rfl, by kernel_rfl⟩, ⟨_, _, _, Try.underlying39⟩⟩
theorem tok40 : Wk.TOk Try.prog 40 ⟨.slice 43, 1, 24, [(Go.Value.slice none 0 0)]⟩ := ⟨⟨Try.t40, _, by kernel_rfl, rfl, rfl, rfl, by kernel_rfl⟩, Try.underlying40⟩
theorem tok42 : Wk.TOk Try.prog 42 ⟨.func, 1, 8, [Go.Value.nilFunc]⟩ := ⟨⟨Try.t42, _, by kernel_rfl, rfl, rfl, rfl, by kernel_rfl⟩, ⟨_, _, _, Try.underlying42⟩⟩
theorem tok43 : Wk.TOk Try.prog 43 ⟨.arr 3 3, 3, 24, [(Go.Value.int Go.IntKind.i64 0), (Go.Value.int Go.IntKind.i64 0), (Go.Value.int Go.IntKind.i64 0)]⟩ := ⟨⟨Try.t43, _, by kernel_rfl, rfl, rfl, rfl, by kernel_rfl⟩, Try.underlying43⟩
theorem tok44 : Wk.TOk Try.prog 44 ⟨.func, 1, 8, [Go.Value.nilFunc]⟩ := ⟨⟨Try.t44, _, by kernel_rfl, rfl, rfl, rfl, by kernel_rfl⟩, ⟨_, _, _, Try.underlying44⟩⟩
theorem tok45 : Wk.TOk Try.prog 45 ⟨.ptr 50, 1, 8, [(Go.Value.pointer none)]⟩ := ⟨⟨Try.t45, _, by kernel_rfl, rfl, rfl, rfl, by kernel_rfl⟩, Try.underlying45⟩
theorem tok46 : Wk.TOk Try.prog 46 ⟨.func, 1, 8, [Go.Value.nilFunc]⟩ := ⟨⟨Try.t46, _, by kernel_rfl, rfl, rfl, rfl, by kernel_rfl⟩, ⟨_, _, _, Try.underlying46⟩⟩
theorem tok47 : Wk.TOk Try.prog 47 ⟨.func, 1, 8, [Go.Value.nilFunc]⟩ := ⟨⟨Try.t47, _, by kernel_rfl, rfl, rfl, rfl, by kernel_rfl⟩, ⟨_, _, _, Try.underlying47⟩⟩
theorem tok48 : Wk.TOk Try.prog 48 ⟨.ptr 67, 1, 8, [(Go.Value.pointer none)]⟩ := ⟨⟨Try.t48, _, by kernel_rfl, rfl, rfl, rfl, by kernel_rfl⟩, Try.underlying48⟩
theorem tok49 : Wk.TOk Try.prog 49 ⟨.strct [(0, 1, 3), (1, 1, 3), (2, 1, 3), (3, 1, 48)], 4, 32, [(Go.Value.int Go.IntKind.i64 0), (Go.Value.int Go.IntKind.i64 0), (Go.Value.int Go.IntKind.i64 0), (Go.Value.pointer none)]⟩ := ⟨⟨Try.t49, _, by kernel_rfl, rfl, rfl, rfl, by kernel_rfl⟩, ⟨_, Try.underlying49, by kernel_rfl, Try.stoodInHeld49, by kernel_rfl⟩⟩
theorem tok50 : Wk.TOk Try.prog 50 ⟨.strct [(0, 1, 3), (1, 1, 3), (2, 1, 3), (3, 1, 48)], 4, 32, [(Go.Value.int Go.IntKind.i64 0), (Go.Value.int Go.IntKind.i64 0), (Go.Value.int Go.IntKind.i64 0), (Go.Value.pointer none)]⟩ := ⟨⟨Try.t50, _, by kernel_rfl, rfl, rfl, rfl, by kernel_rfl⟩, ⟨_, Try.underlying50, by kernel_rfl, Try.stoodInHeld50, by kernel_rfl⟩⟩
theorem tok51 : Wk.TOk Try.prog 51 ⟨.func, 1, 8, [Go.Value.nilFunc]⟩ := ⟨⟨Try.t51, _, by kernel_rfl, rfl, rfl, rfl, by kernel_rfl⟩, ⟨_, _, _, Try.underlying51⟩⟩
theorem tok52 : Wk.TOk Try.prog 52 ⟨.func, 1, 8, [Go.Value.nilFunc]⟩ := ⟨⟨Try.t52, _, by kernel_rfl, rfl, rfl, rfl, by kernel_rfl⟩, ⟨_, _, _, Try.underlying52⟩⟩
theorem tok53 : Wk.TOk Try.prog 53 ⟨.func, 1, 8, [Go.Value.nilFunc]⟩ := ⟨⟨Try.t53, _, by kernel_rfl, rfl, rfl, rfl, by kernel_rfl⟩, ⟨_, _, _, Try.underlying53⟩⟩
theorem tok54 : Wk.TOk Try.prog 54 ⟨.slice 28, 1, 24, [(Go.Value.slice none 0 0)]⟩ := ⟨⟨Try.t54, _, by kernel_rfl, rfl, rfl, rfl, by kernel_rfl⟩, Try.underlying54⟩
theorem tok55 : Wk.TOk Try.prog 55 ⟨.int Go.IntKind.u64, 1, 8, [(Go.Value.int Go.IntKind.u64 0)]⟩ := ⟨⟨Try.t55, _, by kernel_rfl, rfl, rfl, rfl, by kernel_rfl⟩, Try.underlying55⟩
theorem tok56 : Wk.TOk Try.prog 56 ⟨.strct [(0, 1, 3), (1, 1, 55)], 2, 16, [(Go.Value.int Go.IntKind.i64 0), (Go.Value.int Go.IntKind.u64 0)]⟩ := ⟨⟨Try.t56, _, by kernel_rfl, rfl, rfl, rfl, by kernel_rfl⟩, ⟨_, Try.underlying56, by kernel_rfl, Try.stoodInHeld56, by kernel_rfl⟩⟩
theorem tok57 : Wk.TOk Try.prog 57 ⟨.strct [(0, 1, 3), (1, 1, 55)], 2, 16, [(Go.Value.int Go.IntKind.i64 0), (Go.Value.int Go.IntKind.u64 0)]⟩ := ⟨⟨Try.t57, _, by kernel_rfl, rfl, rfl, rfl, by kernel_rfl⟩, ⟨_, Try.underlying57, by kernel_rfl, Try.stoodInHeld57, by kernel_rfl⟩⟩
theorem tok58 : Wk.TOk Try.prog 58 ⟨.strct [(0, 2, 57)], 2, 16, [(Go.Value.int Go.IntKind.i64 0), (Go.Value.int Go.IntKind.u64 0)]⟩ := ⟨⟨Try.t58, _, by kernel_rfl, rfl, rfl, rfl, by kernel_rfl⟩, ⟨_, Try.underlying58, by kernel_rfl, Try.stoodInHeld58, by kernel_rfl⟩⟩
theorem tok59 : Wk.TOk Try.prog 59 ⟨.strct [(0, 2, 57)], 2, 16, [(Go.Value.int Go.IntKind.i64 0), (Go.Value.int Go.IntKind.u64 0)]⟩ := ⟨⟨Try.t59, _, by kernel_rfl, rfl, rfl, rfl, by kernel_rfl⟩, ⟨_, Try.underlying59, by kernel_rfl, Try.stoodInHeld59, by kernel_rfl⟩⟩
theorem tok60 : Wk.TOk Try.prog 60 ⟨.func, 1, 8, [Go.Value.nilFunc]⟩ := ⟨⟨Try.t60, _, by kernel_rfl, rfl, rfl, rfl, by kernel_rfl⟩, ⟨_, _, _, Try.underlying60⟩⟩
theorem tok61 : Wk.TOk Try.prog 61 ⟨.strct [(0, 1, 24), (1, 1, 3), (2, 1, 3), (3, 1, 3)], 4, 32, [(Go.Value.pointer none), (Go.Value.int Go.IntKind.i64 0), (Go.Value.int Go.IntKind.i64 0), (Go.Value.int Go.IntKind.i64 0)]⟩ := ⟨⟨Try.t61, _, by kernel_rfl, rfl, rfl, rfl, by kernel_rfl⟩, ⟨_, Try.underlying61, by kernel_rfl, Try.stoodInHeld61, by kernel_rfl⟩⟩
theorem tok62 : Wk.TOk Try.prog 62 ⟨.strct [(0, 1, 24), (1, 1, 3), (2, 1, 3), (3, 1, 3)], 4, 32, [(Go.Value.pointer none), (Go.Value.int Go.IntKind.i64 0), (Go.Value.int Go.IntKind.i64 0), (Go.Value.int Go.IntKind.i64 0)]⟩ := ⟨⟨Try.t62, _, by kernel_rfl, rfl, rfl, rfl, by kernel_rfl⟩, ⟨_, Try.underlying62, by kernel_rfl, Try.stoodInHeld62, by kernel_rfl⟩⟩
theorem tok63 : Wk.TOk Try.prog 63 ⟨.func, 1, 8, [Go.Value.nilFunc]⟩ := ⟨⟨Try.t63, _, by kernel_rfl, rfl, rfl, rfl, by kernel_rfl⟩, ⟨_, _, _, Try.underlying63⟩⟩
theorem tok64 : Wk.TOk Try.prog 64 ⟨.func, 1, 8, [Go.Value.nilFunc]⟩ := ⟨⟨Try.t64, _, by kernel_rfl, rfl, rfl, rfl, by kernel_rfl⟩, ⟨_, _, _, Try.underlying64⟩⟩
theorem tok65 : Wk.TOk Try.prog 65 ⟨.func, 1, 8, [Go.Value.nilFunc]⟩ := ⟨⟨Try.t65, _, by kernel_rfl, rfl, rfl, rfl, by kernel_rfl⟩, ⟨_, _, _, Try.underlying65⟩⟩
theorem tok66 : Wk.TOk Try.prog 66 ⟨.strct [(0, 1, 22)], 1, 24, [(Go.Value.slice none 0 0)]⟩ := ⟨⟨Try.t66, _, by kernel_rfl, rfl, rfl, rfl, by kernel_rfl⟩, ⟨_, Try.underlying66, by kernel_rfl, Try.stoodInHeld66, by kernel_rfl⟩⟩
theorem tok67 : Wk.TOk Try.prog 67 ⟨.strct [(0, 1, 22)], 1, 24, [(Go.Value.slice none 0 0)]⟩ := ⟨⟨Try.t67, _, by kernel_rfl, rfl, rfl, rfl, by kernel_rfl⟩, ⟨_, Try.underlying67, by kernel_rfl, Try.stoodInHeld67, by kernel_rfl⟩⟩
theorem tok68 : Wk.TOk Try.prog 68 ⟨.func, 1, 8, [Go.Value.nilFunc]⟩ := ⟨⟨Try.t68, _, by kernel_rfl, rfl, rfl, rfl, by kernel_rfl⟩, ⟨_, _, _, Try.underlying68⟩⟩
theorem tok69 : Wk.TOk Try.prog 69 ⟨.func, 1, 8, [Go.Value.nilFunc]⟩ := ⟨⟨Try.t69, _, by kernel_rfl, rfl, rfl, rfl, by kernel_rfl⟩, ⟨_, _, _, Try.underlying69⟩⟩
theorem tok70 : Wk.TOk Try.prog 70 ⟨.func, 1, 8, [Go.Value.nilFunc]⟩ := ⟨⟨Try.t70, _, by kernel_rfl, rfl, rfl, rfl, by kernel_rfl⟩, ⟨_, _, _, Try.underlying70⟩⟩
theorem tok73 : Wk.TOk Try.prog 73 ⟨.arr 0 16, 0, 0, []⟩ := ⟨⟨Try.t73, _, by kernel_rfl, rfl, rfl, rfl, by kernel_rfl⟩, Try.underlying73⟩
theorem tok76 : Wk.TOk Try.prog 76 ⟨.int Go.IntKind.u32, 1, 4, [(Go.Value.int Go.IntKind.u32 0)]⟩ := ⟨⟨Try.t76, _, by kernel_rfl, rfl, rfl, rfl, by kernel_rfl⟩, Try.underlying76⟩
theorem tok77 : Wk.TOk Try.prog 77 ⟨.int Go.IntKind.u8, 1, 1, [(Go.Value.int Go.IntKind.u8 0)]⟩ := ⟨⟨Try.t77, _, by kernel_rfl, rfl, rfl, rfl, by kernel_rfl⟩, Try.underlying77⟩
theorem tok78 : Wk.TOk Try.prog 78 ⟨.int Go.IntKind.u8, 1, 1, [(Go.Value.int Go.IntKind.u8 0)]⟩ := ⟨⟨Try.t78, _, by kernel_rfl, rfl, rfl, rfl, by kernel_rfl⟩, Try.underlying78⟩
theorem tok79 : Wk.TOk Try.prog 79 ⟨.func, 1, 8, [Go.Value.nilFunc]⟩ := ⟨⟨Try.t79, _, by kernel_rfl, rfl, rfl, rfl, by kernel_rfl⟩, ⟨_, _, _, Try.underlying79⟩⟩
theorem tok80 : Wk.TOk Try.prog 80 ⟨.ptr 5, 1, 8, [(Go.Value.pointer none)]⟩ := ⟨⟨Try.t80, _, by kernel_rfl, rfl, rfl, rfl, by kernel_rfl⟩, Try.underlying80⟩
theorem tok81 : Wk.TOk Try.prog 81 ⟨.int Go.IntKind.i32, 1, 4, [(Go.Value.int Go.IntKind.i32 0)]⟩ := ⟨⟨Try.t81, _, by kernel_rfl, rfl, rfl, rfl, by kernel_rfl⟩, Try.underlying81⟩
theorem tok82 : Wk.TOk Try.prog 82 ⟨.int Go.IntKind.i32, 1, 4, [(Go.Value.int Go.IntKind.i32 0)]⟩ := ⟨⟨Try.t82, _, by kernel_rfl, rfl, rfl, rfl, by kernel_rfl⟩, Try.underlying82⟩
theorem okT : Wk.Ok Try.prog TT := Wk.ok_of TTl ⟨tok1, tok2, tok3, tok4, tok5, tok6, tok7, tok8, tok9, tok10, tok11, tok12, tok15, tok16, tok17, tok20, tok21, tok22, tok23, tok24, tok25, tok26, tok27, tok28, tok29, tok30, tok31, tok32, tok33, tok35, tok36, tok37, tok38, tok39, tok40, tok42, tok43, tok44, tok45, tok46, tok47, tok48, tok49, tok50, tok51, tok52, tok53, tok54, tok55, tok56, tok57, tok58, tok59, tok60, tok61, tok62, tok63, tok64, tok65, tok66, tok67, tok68, tok69, tok70, tok73, tok76, tok77, tok78, tok79, tok80, tok81, tok82, trivial⟩ (by kernel_rfl) (by kernel_rfl)
theorem fok3 : Wk.FOk Try.prog 3 := ⟨Try.f3, Try.func3, by kernel_rfl, by kernel_rfl⟩
theorem fok4 : Wk.FOk Try.prog 4 := ⟨Try.f4, Try.func4, by kernel_rfl, by kernel_rfl⟩
theorem fok5 : Wk.FOk Try.prog 5 := ⟨Try.f5, Try.func5, by kernel_rfl, by kernel_rfl⟩
theorem fok6 : Wk.FOk Try.prog 6 := ⟨Try.f6, Try.func6, by kernel_rfl, by kernel_rfl⟩
theorem fok7 : Wk.FOk Try.prog 7 := ⟨Try.f7, Try.func7, by kernel_rfl, by kernel_rfl⟩
theorem fok8 : Wk.FOk Try.prog 8 := ⟨Try.f8, Try.func8, by kernel_rfl, by kernel_rfl⟩
theorem fok9 : Wk.FOk Try.prog 9 := ⟨Try.f9, Try.func9, by kernel_rfl, by kernel_rfl⟩
theorem fok10 : Wk.FOk Try.prog 10 := ⟨Try.f10, Try.func10, by kernel_rfl, by kernel_rfl⟩
theorem fok11 : Wk.FOk Try.prog 11 := ⟨Try.f11, Try.func11, by kernel_rfl, by kernel_rfl⟩
theorem fok12 : Wk.FOk Try.prog 12 := ⟨Try.f12, Try.func12, by kernel_rfl, by kernel_rfl⟩
theorem fok13 : Wk.FOk Try.prog 13 := ⟨Try.f13, Try.func13, by kernel_rfl, by kernel_rfl⟩
theorem fok14 : Wk.FOk Try.prog 14 := ⟨Try.f14, Try.func14, by kernel_rfl, by kernel_rfl⟩
theorem fok15 : Wk.FOk Try.prog 15 := ⟨Try.f15, Try.func15, by kernel_rfl, by kernel_rfl⟩
theorem fok16 : Wk.FOk Try.prog 16 := ⟨Try.f16, Try.func16, by kernel_rfl, by kernel_rfl⟩
theorem fok17 : Wk.FOk Try.prog 17 := ⟨Try.f17, Try.func17, by kernel_rfl, by kernel_rfl⟩
theorem fok18 : Wk.FOk Try.prog 18 := ⟨Try.f18, Try.func18, by kernel_rfl, by kernel_rfl⟩
theorem fok19 : Wk.FOk Try.prog 19 := ⟨Try.f19, Try.func19, by kernel_rfl, by kernel_rfl⟩
theorem fok20 : Wk.FOk Try.prog 20 := ⟨Try.f20, Try.func20, by kernel_rfl, by kernel_rfl⟩
theorem fok21 : Wk.FOk Try.prog 21 := ⟨Try.f21, Try.func21, by kernel_rfl, by kernel_rfl⟩
theorem fok22 : Wk.FOk Try.prog 22 := ⟨Try.f22, Try.func22, by kernel_rfl, by kernel_rfl⟩
theorem fok23 : Wk.FOk Try.prog 23 := ⟨Try.f23, Try.func23, by kernel_rfl, by kernel_rfl⟩
theorem fok24 : Wk.FOk Try.prog 24 := ⟨Try.f24, Try.func24, by kernel_rfl, by kernel_rfl⟩
theorem fok25 : Wk.FOk Try.prog 25 := ⟨Try.f25, Try.func25, by kernel_rfl, by kernel_rfl⟩
theorem fok26 : Wk.FOk Try.prog 26 := ⟨Try.f26, Try.func26, by kernel_rfl, by kernel_rfl⟩
theorem fok27 : Wk.FOk Try.prog 27 := ⟨Try.f27, Try.func27, by kernel_rfl, by kernel_rfl⟩
theorem fok28 : Wk.FOk Try.prog 28 := ⟨Try.f28, Try.func28, by kernel_rfl, by kernel_rfl⟩
theorem fok29 : Wk.FOk Try.prog 29 := ⟨Try.f29, Try.func29, by kernel_rfl, by kernel_rfl⟩
theorem fok30 : Wk.FOk Try.prog 30 := ⟨Try.f30, Try.func30, by kernel_rfl, by kernel_rfl⟩
theorem fok31 : Wk.FOk Try.prog 31 := ⟨Try.f31, Try.func31, by kernel_rfl, by kernel_rfl⟩
theorem fok32 : Wk.FOk Try.prog 32 := ⟨Try.f32, Try.func32, by kernel_rfl, by kernel_rfl⟩
theorem fok33 : Wk.FOk Try.prog 33 := ⟨Try.f33, Try.func33, by kernel_rfl, by kernel_rfl⟩
theorem fok34 : Wk.FOk Try.prog 34 := ⟨Try.f34, Try.func34, by kernel_rfl, by kernel_rfl⟩
theorem fok35 : Wk.FOk Try.prog 35 := ⟨Try.f35, Try.func35, by kernel_rfl, by kernel_rfl⟩
theorem fok36 : Wk.FOk Try.prog 36 := ⟨Try.f36, Try.func36, by kernel_rfl, by kernel_rfl⟩
theorem fok37 : Wk.FOk Try.prog 37 := ⟨Try.f37, Try.func37, by kernel_rfl, by kernel_rfl⟩
theorem fok38 : Wk.FOk Try.prog 38 := ⟨Try.f38, Try.func38, by kernel_rfl, by kernel_rfl⟩
theorem fok39 : Wk.FOk Try.prog 39 := ⟨Try.f39, Try.func39, by kernel_rfl, by kernel_rfl⟩
theorem fok40 : Wk.FOk Try.prog 40 := ⟨Try.f40, Try.func40, by kernel_rfl, by kernel_rfl⟩
theorem fok41 : Wk.FOk Try.prog 41 := ⟨Try.f41, Try.func41, by kernel_rfl, by kernel_rfl⟩
end Go.Proofs.Ytechabbdobbooaa
