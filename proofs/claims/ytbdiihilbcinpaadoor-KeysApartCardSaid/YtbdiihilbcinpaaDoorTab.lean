/-
  The table of the types of this seat's program, for the walking layer: made by a program (mkseat.py).
-/
import Derived.Test.YtbdiihilbcinpaaDoorRows
import Derived.Test.YtbdiihilbcinpaaDoorGs
import Derived.KernelRfl
namespace Go.Proofs.YtbdiihilbcinpaaDoor
open Go
def TTl : List (Option Wk.TI) := [
  none,
  some ⟨.func, 1, 8, [Go.Value.nilFunc]⟩,
  some ⟨.int Go.IntKind.i64, 1, 8, [(Go.Value.int Go.IntKind.i64 0)]⟩,
  some ⟨.int Go.IntKind.i64, 1, 8, [(Go.Value.int Go.IntKind.i64 0)]⟩,
  some ⟨.bool, 1, 1, [(Go.Value.bool false)]⟩,
  some ⟨.int Go.IntKind.u8, 1, 1, [(Go.Value.int Go.IntKind.u8 0)]⟩,
  some ⟨.int Go.IntKind.u8, 1, 1, [(Go.Value.int Go.IntKind.u8 0)]⟩,
  some ⟨.strct [(0, 1, 2), (1, 1, 3), (2, 1, 4), (3, 1, 6)], 4, 24, [(Go.Value.int Go.IntKind.i64 0), (Go.Value.int Go.IntKind.i64 0), (Go.Value.bool false), (Go.Value.int Go.IntKind.u8 0)]⟩,
  some ⟨.strct [(0, 1, 2), (1, 1, 3), (2, 1, 4), (3, 1, 6)], 4, 24, [(Go.Value.int Go.IntKind.i64 0), (Go.Value.int Go.IntKind.i64 0), (Go.Value.bool false), (Go.Value.int Go.IntKind.u8 0)]⟩,
  some ⟨.string, 1, 16, [(Go.Value.string { data := #[] })]⟩,
  some ⟨.string, 1, 16, [(Go.Value.string { data := #[] })]⟩,
  some ⟨.string, 1, 16, [(Go.Value.string { data := #[] })]⟩,
  some ⟨.int Go.IntKind.u64, 1, 8, [(Go.Value.int Go.IntKind.u64 0)]⟩,
  none,
  none,
  some ⟨.ptr 80, 1, 8, [(Go.Value.pointer none)]⟩,
  some ⟨.ptr 83, 1, 8, [(Go.Value.pointer none)]⟩,
  some ⟨.ptr 92, 1, 8, [(Go.Value.pointer none)]⟩,
  none,
  none,
  some ⟨.iface, 1, 16, [Go.Value.nilIface]⟩,
  some ⟨.int Go.IntKind.i32, 1, 4, [(Go.Value.int Go.IntKind.i32 0)]⟩,
  some ⟨.slice 9, 1, 24, [(Go.Value.slice none 0 0)]⟩,
  some ⟨.func, 1, 8, [Go.Value.nilFunc]⟩,
  some ⟨.ptr 50, 1, 8, [(Go.Value.pointer none)]⟩,
  some ⟨.int Go.IntKind.i64, 1, 8, [(Go.Value.int Go.IntKind.i64 0)]⟩,
  none,
  some ⟨.func, 1, 8, [Go.Value.nilFunc]⟩,
  none,
  some ⟨.func, 1, 8, [Go.Value.nilFunc]⟩,
  some ⟨.func, 1, 8, [Go.Value.nilFunc]⟩,
  some ⟨.strct [(0, 1, 5), (1, 1, 9)], 2, 24, [(Go.Value.int Go.IntKind.u8 0), (Go.Value.string { data := #[] })]⟩,
  some ⟨.strct [(0, 1, 5), (1, 1, 9)], 2, 24, [(Go.Value.int Go.IntKind.u8 0), (Go.Value.string { data := #[] })]⟩,
  some ⟨.func, 1, 8, [Go.Value.nilFunc]⟩,
  some ⟨.func, 1, 8, [Go.Value.nilFunc]⟩,
  none,
  some ⟨.func, 1, 8, [Go.Value.nilFunc]⟩,
  none,
  some ⟨.func, 1, 8, [Go.Value.nilFunc]⟩,
  some ⟨.func, 1, 8, [Go.Value.nilFunc]⟩,
  some ⟨.func, 1, 8, [Go.Value.nilFunc]⟩,
  some ⟨.func, 1, 8, [Go.Value.nilFunc]⟩,
  some ⟨.func, 1, 8, [Go.Value.nilFunc]⟩,
  some ⟨.func, 1, 8, [Go.Value.nilFunc]⟩,
  some ⟨.func, 1, 8, [Go.Value.nilFunc]⟩,
  some ⟨.strct [], 0, 0, []⟩,
  some ⟨.strct [], 0, 0, []⟩,
  some ⟨.iface, 1, 16, [Go.Value.nilIface]⟩,
  some ⟨.iface, 1, 16, [Go.Value.nilIface]⟩,
  some ⟨.strct [(0, 1, 48)], 1, 16, [Go.Value.nilIface]⟩,
  some ⟨.strct [(0, 1, 48)], 1, 16, [Go.Value.nilIface]⟩,
  some ⟨.strct [(0, 1, 9)], 1, 16, [(Go.Value.string { data := #[] })]⟩,
  some ⟨.strct [(0, 1, 9)], 1, 16, [(Go.Value.string { data := #[] })]⟩,
  some ⟨.func, 1, 8, [Go.Value.nilFunc]⟩,
  some ⟨.func, 1, 8, [Go.Value.nilFunc]⟩,
  some ⟨.func, 1, 8, [Go.Value.nilFunc]⟩,
  some ⟨.func, 1, 8, [Go.Value.nilFunc]⟩,
  some ⟨.func, 1, 8, [Go.Value.nilFunc]⟩,
  some ⟨.func, 1, 8, [Go.Value.nilFunc]⟩,
  some ⟨.func, 1, 8, [Go.Value.nilFunc]⟩,
  some ⟨.func, 1, 8, [Go.Value.nilFunc]⟩,
  some ⟨.int Go.IntKind.u64, 1, 8, [(Go.Value.int Go.IntKind.u64 0)]⟩,
  some ⟨.func, 1, 8, [Go.Value.nilFunc]⟩,
  some ⟨.arr 3 9, 3, 48, [(Go.Value.string { data := #[] }), (Go.Value.string { data := #[] }), (Go.Value.string { data := #[] })]⟩,
  some ⟨.slice 5, 1, 24, [(Go.Value.slice none 0 0)]⟩,
  some ⟨.func, 1, 8, [Go.Value.nilFunc]⟩,
  some ⟨.func, 1, 8, [Go.Value.nilFunc]⟩,
  some ⟨.func, 1, 8, [Go.Value.nilFunc]⟩,
  some ⟨.func, 1, 8, [Go.Value.nilFunc]⟩,
  some ⟨.func, 1, 8, [Go.Value.nilFunc]⟩,
  some ⟨.int Go.IntKind.u64, 1, 8, [(Go.Value.int Go.IntKind.u64 0)]⟩,
  some ⟨.int Go.IntKind.u32, 1, 4, [(Go.Value.int Go.IntKind.u32 0)]⟩,
  some ⟨.arr 8 71, 8, 32, [(Go.Value.int Go.IntKind.u32 0), (Go.Value.int Go.IntKind.u32 0), (Go.Value.int Go.IntKind.u32 0), (Go.Value.int Go.IntKind.u32 0), (Go.Value.int Go.IntKind.u32 0), (Go.Value.int Go.IntKind.u32 0), (Go.Value.int Go.IntKind.u32 0), (Go.Value.int Go.IntKind.u32 0)]⟩,
  some ⟨.func, 1, 8, [Go.Value.nilFunc]⟩,
  some ⟨.arr 64 71, 64, 256, [(Go.Value.int Go.IntKind.u32 0), (Go.Value.int Go.IntKind.u32 0), (Go.Value.int Go.IntKind.u32 0), (Go.Value.int Go.IntKind.u32 0), (Go.Value.int Go.IntKind.u32 0), (Go.Value.int Go.IntKind.u32 0), (Go.Value.int Go.IntKind.u32 0), (Go.Value.int Go.IntKind.u32 0), (Go.Value.int Go.IntKind.u32 0), (Go.Value.int Go.IntKind.u32 0), (Go.Value.int Go.IntKind.u32 0), (Go.Value.int Go.IntKind.u32 0), (Go.Value.int Go.IntKind.u32 0), (Go.Value.int Go.IntKind.u32 0), (Go.Value.int Go.IntKind.u32 0), (Go.Value.int Go.IntKind.u32 0), (Go.Value.int Go.IntKind.u32 0), (Go.Value.int Go.IntKind.u32 0), (Go.Value.int Go.IntKind.u32 0), (Go.Value.int Go.IntKind.u32 0), (Go.Value.int Go.IntKind.u32 0), (Go.Value.int Go.IntKind.u32 0), (Go.Value.int Go.IntKind.u32 0), (Go.Value.int Go.IntKind.u32 0), (Go.Value.int Go.IntKind.u32 0), (Go.Value.int Go.IntKind.u32 0), (Go.Value.int Go.IntKind.u32 0), (Go.Value.int Go.IntKind.u32 0), (Go.Value.int Go.IntKind.u32 0), (Go.Value.int Go.IntKind.u32 0), (Go.Value.int Go.IntKind.u32 0), (Go.Value.int Go.IntKind.u32 0), (Go.Value.int Go.IntKind.u32 0), (Go.Value.int Go.IntKind.u32 0), (Go.Value.int Go.IntKind.u32 0), (Go.Value.int Go.IntKind.u32 0), (Go.Value.int Go.IntKind.u32 0), (Go.Value.int Go.IntKind.u32 0), (Go.Value.int Go.IntKind.u32 0), (Go.Value.int Go.IntKind.u32 0), (Go.Value.int Go.IntKind.u32 0), (Go.Value.int Go.IntKind.u32 0), (Go.Value.int Go.IntKind.u32 0), (Go.Value.int Go.IntKind.u32 0), (Go.Value.int Go.IntKind.u32 0), (Go.Value.int Go.IntKind.u32 0), (Go.Value.int Go.IntKind.u32 0), (Go.Value.int Go.IntKind.u32 0), (Go.Value.int Go.IntKind.u32 0), (Go.Value.int Go.IntKind.u32 0), (Go.Value.int Go.IntKind.u32 0), (Go.Value.int Go.IntKind.u32 0), (Go.Value.int Go.IntKind.u32 0), (Go.Value.int Go.IntKind.u32 0), (Go.Value.int Go.IntKind.u32 0), (Go.Value.int Go.IntKind.u32 0), (Go.Value.int Go.IntKind.u32 0), (Go.Value.int Go.IntKind.u32 0), (Go.Value.int Go.IntKind.u32 0), (Go.Value.int Go.IntKind.u32 0), (Go.Value.int Go.IntKind.u32 0), (Go.Value.int Go.IntKind.u32 0), (Go.Value.int Go.IntKind.u32 0), (Go.Value.int Go.IntKind.u32 0)]⟩,
  some ⟨.func, 1, 8, [Go.Value.nilFunc]⟩,
  some ⟨.func, 1, 8, [Go.Value.nilFunc]⟩,
  some ⟨.func, 1, 8, [Go.Value.nilFunc]⟩,
  some ⟨.func, 1, 8, [Go.Value.nilFunc]⟩,
  none,
  none,
  some ⟨.arr 0 16, 0, 0, []⟩,
  none,
  none,
  some ⟨.func, 1, 8, [Go.Value.nilFunc]⟩,
  some ⟨.int Go.IntKind.u8, 1, 1, [(Go.Value.int Go.IntKind.u8 0)]⟩,
  some ⟨.int Go.IntKind.u8, 1, 1, [(Go.Value.int Go.IntKind.u8 0)]⟩,
  some ⟨.func, 1, 8, [Go.Value.nilFunc]⟩,
  some ⟨.ptr 5, 1, 8, [(Go.Value.pointer none)]⟩,
  some ⟨.int Go.IntKind.i32, 1, 4, [(Go.Value.int Go.IntKind.i32 0)]⟩,
  some ⟨.int Go.IntKind.i32, 1, 4, [(Go.Value.int Go.IntKind.i32 0)]⟩,
  none,
  none,
  some ⟨.func, 1, 8, [Go.Value.nilFunc]⟩,
  some ⟨.func, 1, 8, [Go.Value.nilFunc]⟩,
  some ⟨.func, 1, 8, [Go.Value.nilFunc]⟩,
  some ⟨.arr 9 5, 9, 9, [(Go.Value.int Go.IntKind.u8 0), (Go.Value.int Go.IntKind.u8 0), (Go.Value.int Go.IntKind.u8 0), (Go.Value.int Go.IntKind.u8 0), (Go.Value.int Go.IntKind.u8 0), (Go.Value.int Go.IntKind.u8 0), (Go.Value.int Go.IntKind.u8 0), (Go.Value.int Go.IntKind.u8 0), (Go.Value.int Go.IntKind.u8 0)]⟩,
  some ⟨.func, 1, 8, [Go.Value.nilFunc]⟩,
  some ⟨.func, 1, 8, [Go.Value.nilFunc]⟩,
  some ⟨.func, 1, 8, [Go.Value.nilFunc]⟩,
  some ⟨.func, 1, 8, [Go.Value.nilFunc]⟩,
  some ⟨.func, 1, 8, [Go.Value.nilFunc]⟩,
  some ⟨.func, 1, 8, [Go.Value.nilFunc]⟩,
  some ⟨.ptr 112, 1, 8, [(Go.Value.pointer none)]⟩,
  some ⟨.func, 1, 8, [Go.Value.nilFunc]⟩,
  some ⟨.func, 1, 8, [Go.Value.nilFunc]⟩,
  some ⟨.func, 1, 8, [Go.Value.nilFunc]⟩,
  some ⟨.ptr 117, 1, 8, [(Go.Value.pointer none)]⟩,
  some ⟨.strct [(0, 1, 107)], 1, 8, [(Go.Value.pointer none)]⟩,
  some ⟨.strct [(0, 1, 107)], 1, 8, [(Go.Value.pointer none)]⟩,
  some ⟨.func, 1, 8, [Go.Value.nilFunc]⟩,
  some ⟨.strct [(0, 1, 109), (1, 1, 109)], 2, 16, [(Go.Value.pointer none), (Go.Value.pointer none)]⟩,
  some ⟨.strct [(0, 1, 109), (1, 1, 109)], 2, 16, [(Go.Value.pointer none), (Go.Value.pointer none)]⟩,
  some ⟨.func, 1, 8, [Go.Value.nilFunc]⟩,
  some ⟨.func, 1, 8, [Go.Value.nilFunc]⟩,
  some ⟨.arr 64 5, 64, 64, [(Go.Value.int Go.IntKind.u8 0), (Go.Value.int Go.IntKind.u8 0), (Go.Value.int Go.IntKind.u8 0), (Go.Value.int Go.IntKind.u8 0), (Go.Value.int Go.IntKind.u8 0), (Go.Value.int Go.IntKind.u8 0), (Go.Value.int Go.IntKind.u8 0), (Go.Value.int Go.IntKind.u8 0), (Go.Value.int Go.IntKind.u8 0), (Go.Value.int Go.IntKind.u8 0), (Go.Value.int Go.IntKind.u8 0), (Go.Value.int Go.IntKind.u8 0), (Go.Value.int Go.IntKind.u8 0), (Go.Value.int Go.IntKind.u8 0), (Go.Value.int Go.IntKind.u8 0), (Go.Value.int Go.IntKind.u8 0), (Go.Value.int Go.IntKind.u8 0), (Go.Value.int Go.IntKind.u8 0), (Go.Value.int Go.IntKind.u8 0), (Go.Value.int Go.IntKind.u8 0), (Go.Value.int Go.IntKind.u8 0), (Go.Value.int Go.IntKind.u8 0), (Go.Value.int Go.IntKind.u8 0), (Go.Value.int Go.IntKind.u8 0), (Go.Value.int Go.IntKind.u8 0), (Go.Value.int Go.IntKind.u8 0), (Go.Value.int Go.IntKind.u8 0), (Go.Value.int Go.IntKind.u8 0), (Go.Value.int Go.IntKind.u8 0), (Go.Value.int Go.IntKind.u8 0), (Go.Value.int Go.IntKind.u8 0), (Go.Value.int Go.IntKind.u8 0), (Go.Value.int Go.IntKind.u8 0), (Go.Value.int Go.IntKind.u8 0), (Go.Value.int Go.IntKind.u8 0), (Go.Value.int Go.IntKind.u8 0), (Go.Value.int Go.IntKind.u8 0), (Go.Value.int Go.IntKind.u8 0), (Go.Value.int Go.IntKind.u8 0), (Go.Value.int Go.IntKind.u8 0), (Go.Value.int Go.IntKind.u8 0), (Go.Value.int Go.IntKind.u8 0), (Go.Value.int Go.IntKind.u8 0), (Go.Value.int Go.IntKind.u8 0), (Go.Value.int Go.IntKind.u8 0), (Go.Value.int Go.IntKind.u8 0), (Go.Value.int Go.IntKind.u8 0), (Go.Value.int Go.IntKind.u8 0), (Go.Value.int Go.IntKind.u8 0), (Go.Value.int Go.IntKind.u8 0), (Go.Value.int Go.IntKind.u8 0), (Go.Value.int Go.IntKind.u8 0), (Go.Value.int Go.IntKind.u8 0), (Go.Value.int Go.IntKind.u8 0), (Go.Value.int Go.IntKind.u8 0), (Go.Value.int Go.IntKind.u8 0), (Go.Value.int Go.IntKind.u8 0), (Go.Value.int Go.IntKind.u8 0), (Go.Value.int Go.IntKind.u8 0), (Go.Value.int Go.IntKind.u8 0), (Go.Value.int Go.IntKind.u8 0), (Go.Value.int Go.IntKind.u8 0), (Go.Value.int Go.IntKind.u8 0), (Go.Value.int Go.IntKind.u8 0)]⟩,
  none,
  none,
  some ⟨.arr 16 71, 16, 64, [(Go.Value.int Go.IntKind.u32 0), (Go.Value.int Go.IntKind.u32 0), (Go.Value.int Go.IntKind.u32 0), (Go.Value.int Go.IntKind.u32 0), (Go.Value.int Go.IntKind.u32 0), (Go.Value.int Go.IntKind.u32 0), (Go.Value.int Go.IntKind.u32 0), (Go.Value.int Go.IntKind.u32 0), (Go.Value.int Go.IntKind.u32 0), (Go.Value.int Go.IntKind.u32 0), (Go.Value.int Go.IntKind.u32 0), (Go.Value.int Go.IntKind.u32 0), (Go.Value.int Go.IntKind.u32 0), (Go.Value.int Go.IntKind.u32 0), (Go.Value.int Go.IntKind.u32 0), (Go.Value.int Go.IntKind.u32 0)]⟩,
  some ⟨.func, 1, 8, [Go.Value.nilFunc]⟩]
def TT : Wk.Tab := Wk.nth TTl
theorem TT_eq (t : Nat) : TT t = Wk.nth TTl t := rfl
theorem tok1 : Wk.TOk Tryd.prog 1 ⟨.func, 1, 8, [Go.Value.nilFunc]⟩ := ⟨⟨Tryd.t1, _, by kernel_rfl, rfl, rfl, rfl, by kernel_rfl⟩, ⟨_, _, _, Tryd.underlying1⟩⟩
theorem tok2 : Wk.TOk Tryd.prog 2 ⟨.int Go.IntKind.i64, 1, 8, [(Go.Value.int Go.IntKind.i64 0)]⟩ := ⟨⟨Tryd.t2, _, by kernel_rfl, rfl, rfl, rfl, by kernel_rfl⟩, Tryd.underlying2⟩
theorem tok3 : Wk.TOk Tryd.prog 3 ⟨.int Go.IntKind.i64, 1, 8, [(Go.Value.int Go.IntKind.i64 0)]⟩ := ⟨⟨Tryd.t3, _, by kernel_rfl, rfl, rfl, rfl, by kernel_rfl⟩, Tryd.underlying3⟩
theorem tok4 : Wk.TOk Tryd.prog 4 ⟨.bool, 1, 1, [(Go.Value.bool false)]⟩ := ⟨⟨Tryd.t4, _, by kernel_rfl, rfl, rfl, rfl, by kernel_rfl⟩, Tryd.underlying4⟩
theorem tok5 : Wk.TOk Tryd.prog 5 ⟨.int Go.IntKind.u8, 1, 1, [(Go.Value.int Go.IntKind.u8 0)]⟩ := ⟨⟨Tryd.t5, _, by kernel_rfl, rfl, rfl, rfl, by kernel_rfl⟩, Tryd.underlying5⟩
theorem tok6 : Wk.TOk Tryd.prog 6 ⟨.int Go.IntKind.u8, 1, 1, [(Go.Value.int Go.IntKind.u8 0)]⟩ := ⟨⟨Tryd.t6, _, by kernel_rfl, rfl, rfl, rfl, by kernel_rfl⟩, Tryd.underlying6⟩
theorem tok7 : Wk.TOk Tryd.prog 7 ⟨.strct [(0, 1, 2), (1, 1, 3), (2, 1, 4), (3, 1, 6)], 4, 24, [(Go.Value.int Go.IntKind.i64 0), (Go.Value.int Go.IntKind.i64 0), (Go.Value.bool false), (Go.Value.int Go.IntKind.u8 0)]⟩ := ⟨⟨Tryd.t7, _, by kernel_rfl, rfl, rfl, rfl, by kernel_rfl⟩, ⟨_, Tryd.underlying7, by kernel_rfl, Tryd.stoodInHeld7, by kernel_rfl⟩⟩
theorem tok8 : Wk.TOk Tryd.prog 8 ⟨.strct [(0, 1, 2), (1, 1, 3), (2, 1, 4), (3, 1, 6)], 4, 24, [(Go.Value.int Go.IntKind.i64 0), (Go.Value.int Go.IntKind.i64 0), (Go.Value.bool false), (Go.Value.int Go.IntKind.u8 0)]⟩ := ⟨⟨Tryd.t8, _, by kernel_rfl, rfl, rfl, rfl, by kernel_rfl⟩, ⟨_, Tryd.underlying8, by kernel_rfl, Tryd.stoodInHeld8, by kernel_rfl⟩⟩
theorem tok9 : Wk.TOk Tryd.prog 9 ⟨.string, 1, 16, [(Go.Value.string { data := #[] })]⟩ := ⟨⟨Tryd.t9, _, by kernel_rfl, rfl, rfl, rfl, by kernel_rfl⟩, Tryd.underlying9⟩
theorem tok10 : Wk.TOk Tryd.prog 10 ⟨.string, 1, 16, [(Go.Value.string { data := #[] })]⟩ := ⟨⟨Tryd.t10, _, by kernel_rfl, rfl, rfl, rfl, by kernel_rfl⟩, Tryd.underlying10⟩
theorem tok11 : Wk.TOk Tryd.prog 11 ⟨.string, 1, 16, [(Go.Value.string { data := #[] })]⟩ := ⟨⟨Tryd.t11, _, by kernel_rfl, rfl, rfl, rfl, by kernel_rfl⟩, Tryd.underlying11⟩
theorem tok12 : Wk.TOk Tryd.prog 12 ⟨.int Go.IntKind.u64, 1, 8, [(Go.Value.int Go.IntKind.u64 0)]⟩ := ⟨⟨Tryd.t12, _, by kernel_rfl, rfl, rfl, rfl, by kernel_rfl⟩, Tryd.underlying12⟩
theorem tok15 : Wk.TOk Tryd.prog 15 ⟨.ptr 80, 1, 8, [(Go.Value.pointer none)]⟩ := ⟨⟨Tryd.t15, _, by kernel_rfl, rfl, rfl, rfl, by kernel_rfl⟩, Tryd.underlying15⟩
theorem tok16 : Wk.TOk Tryd.prog 16 ⟨.ptr 83, 1, 8, [(Go.Value.pointer none)]⟩ := ⟨⟨Tryd.t16, _, by kernel_rfl, rfl, rfl, rfl, by kernel_rfl⟩, Tryd.underlying16⟩
theorem tok17 : Wk.TOk Tryd.prog 17 ⟨.ptr 92, 1, 8, [(Go.Value.pointer none)]⟩ := ⟨⟨Tryd.t17, _, by kernel_rfl, rfl, rfl, rfl, by kernel_rfl⟩, Tryd.underlying17⟩
theorem tok20 : Wk.TOk Tryd.prog 20 ⟨.iface, 1, 16, [Go.Value.nilIface]⟩ := ⟨⟨Tryd.t20, _, by kernel_rfl, rfl, rfl, rfl, by kernel_rfl⟩, ⟨_, Tryd.underlying20⟩⟩
theorem tok21 : Wk.TOk Tryd.prog 21 ⟨.int Go.IntKind.i32, 1, 4, [(Go.Value.int Go.IntKind.i32 0)]⟩ := ⟨⟨Tryd.t21, _, by kernel_rfl, rfl, rfl, rfl, by kernel_rfl⟩, Tryd.underlying21⟩
theorem tok22 : Wk.TOk Tryd.prog 22 ⟨.slice 9, 1, 24, [(Go.Value.slice none 0 0)]⟩ := ⟨⟨Tryd.t22, _, by kernel_rfl, rfl, rfl, rfl, by kernel_rfl⟩, Tryd.underlying22⟩
theorem tok23 : Wk.TOk Tryd.prog 23 ⟨.func, 1, 8, [Go.Value.nilFunc]⟩ := ⟨⟨Tryd.t23, _, by kernel_rfl, rfl, rfl, rfl, by kernel_rfl⟩, ⟨_, _, _, Tryd.underlying23⟩⟩
theorem tok24 : Wk.TOk Tryd.prog 24 ⟨.ptr 50, 1, 8, [(Go.Value.pointer none)]⟩ := ⟨⟨Tryd.t24, _, by kernel_rfl, rfl, rfl, rfl, by kernel_rfl⟩, Tryd.underlying24⟩
theorem tok25 : Wk.TOk Tryd.prog 25 ⟨.int Go.IntKind.i64, 1, 8, [(Go.Value.int Go.IntKind.i64 0)]⟩ := ⟨⟨Tryd.t25, _, by kernel_rfl, rfl, rfl, rfl, by kernel_rfl⟩, Tryd.underlying25⟩
theorem tok27 : Wk.TOk Tryd.prog 27 ⟨.func, 1, 8, [Go.Value.nilFunc]⟩ := ⟨⟨Tryd.t27, _, by kernel_rfl, rfl, rfl, rfl, by kernel_rfl⟩, ⟨_, _, _, Tryd.underlying27⟩⟩
theorem tok29 : Wk.TOk Tryd.prog 29 ⟨.func, 1, 8, [Go.Value.nilFunc]⟩ := ⟨⟨Tryd.t29, _, by kernel_rfl, rfl, rfl, rfl, by kernel_rfl⟩, ⟨_, _, _, Tryd.underlying29⟩⟩
theorem tok30 : Wk.TOk Tryd.prog 30 ⟨.func, 1, 8, [Go.Value.nilFunc]⟩ := ⟨⟨Tryd.t30, _, by kernel_rfl, rfl, rfl, rfl, by kernel_rfl⟩, ⟨_, _, _, Tryd.underlying30⟩⟩
theorem tok31 : Wk.TOk Tryd.prog 31 ⟨.strct [(0, 1, 5), (1, 1, 9)], 2, 24, [(Go.Value.int Go.IntKind.u8 0), (Go.Value.string { data := #[] })]⟩ := ⟨⟨Tryd.t31, _, by kernel_rfl, rfl, rfl, rfl, by kernel_rfl⟩, ⟨_, Tryd.underlying31, by kernel_rfl, Tryd.stoodInHeld31, by kernel_rfl⟩⟩
theorem tok32 : Wk.TOk Tryd.prog 32 ⟨.strct [(0, 1, 5), (1, 1, 9)], 2, 24, [(Go.Value.int Go.IntKind.u8 0), (Go.Value.string { data := #[] })]⟩ := ⟨⟨Tryd.t32, _, by kernel_rfl, rfl, rfl, rfl, by kernel_rfl⟩, ⟨_, Tryd.underlying32, by kernel_rfl, Tryd.stoodInHeld32, by kernel_rfl⟩⟩
theorem tok33 : Wk.TOk Tryd.prog 33 ⟨.func, 1, 8, [Go.Value.nilFunc]⟩ := ⟨⟨Tryd.t33, _, by kernel_rfl, rfl, rfl, rfl, by kernel_rfl⟩, ⟨_, _, _, Tryd.underlying33⟩⟩
theorem tok34 : Wk.TOk Tryd.prog 34 ⟨.func, 1, 8, [Go.Value.nilFunc]⟩ := ⟨⟨Tryd.t34, _, by kernel_rfl, rfl, rfl, rfl, by kernel_rfl⟩, ⟨_, _, _, Tryd.underlying34⟩⟩
theorem tok36 : Wk.TOk Tryd.prog 36 ⟨.func, 1, 8, [Go.Value.nilFunc]⟩ := ⟨⟨Tryd.t36, _, by kernel_rfl, rfl, rfl, rfl, by kernel_rfl⟩, ⟨_, _, _, Tryd.underlying36⟩⟩
theorem tok38 : Wk.TOk Tryd.prog 38 ⟨.func, 1, 8, [Go.Value.nilFunc]⟩ := ⟨⟨Tryd.t38, _, by kernel_rfl, rfl, rfl, rfl, by kernel_rfl⟩, ⟨_, _, _, Tryd.underlying38⟩⟩
theorem tok39 : Wk.TOk Tryd.prog 39 ⟨.func, 1, 8, [Go.Value.nilFunc]⟩ := ⟨⟨Tryd.t39, _, by kernel_rfl, rfl, rfl, rfl, by kernel_rfl⟩, ⟨_, _, _, Tryd.underlying39⟩⟩
theorem tok40 : Wk.TOk Tryd.prog 40 ⟨.func, 1, 8, [Go.Value.nilFunc]⟩ := ⟨⟨Tryd.t40, _, by kernel_rfl, rfl, rfl, rfl, by kernel_rfl⟩, ⟨_, _, _, Tryd.underlying40⟩⟩
theorem tok41 : Wk.TOk Tryd.prog 41 ⟨.func, 1, 8, [Go.Value.nilFunc]⟩ := ⟨⟨Tryd.t41, _, by kernel_rfl, rfl, rfl, rfl, by kernel_rfl⟩, ⟨_, _, _, Tryd.underlying41⟩⟩
theorem tok42 : Wk.TOk Tryd.prog 42 ⟨.func, 1, 8, [Go.Value.nilFunc]⟩ := ⟨⟨Tryd.t42, _, by kernel_rfl, rfl, rfl, rfl, by kernel_rfl⟩, ⟨_, _, _, Tryd.underlying42⟩⟩
theorem tok43 : Wk.TOk Tryd.prog 43 ⟨.func, 1, 8, [Go.Value.nilFunc]⟩ := ⟨⟨Tryd.t43, _, by kernel_rfl, rfl, rfl, rfl, by kernel_rfl⟩, ⟨_, _, _, Tryd.underlying43⟩⟩
theorem tok44 : Wk.TOk Tryd.prog 44 ⟨.func, 1, 8, [Go.Value.nilFunc]⟩ := ⟨⟨Tryd.t44, _, by kernel_rfl, rfl, rfl, rfl, by kernel_rfl⟩, ⟨_, _, _, Tryd.underlying44⟩⟩
theorem tok45 : Wk.TOk Tryd.prog 45 ⟨.strct [], 0, 0, []⟩ := ⟨⟨Tryd.t45, _, by kernel_rfl, rfl, rfl, rfl, by kernel_rfl⟩, ⟨_, Tryd.underlying45, by kernel_rfl, Tryd.stoodInHeld45, by kernel_rfl⟩⟩
theorem tok46 : Wk.TOk Tryd.prog 46 ⟨.strct [], 0, 0, []⟩ := ⟨⟨Tryd.t46, _, by kernel_rfl, rfl, rfl, rfl, by kernel_rfl⟩, ⟨_, Tryd.underlying46, by kernel_rfl, Tryd.stoodInHeld46, by kernel_rfl⟩⟩
theorem tok47 : Wk.TOk Tryd.prog 47 ⟨.iface, 1, 16, [Go.Value.nilIface]⟩ := ⟨⟨Tryd.t47, _, by kernel_rfl, rfl, rfl, rfl, by kernel_rfl⟩, ⟨_, Tryd.underlying47⟩⟩
theorem tok48 : Wk.TOk Tryd.prog 48 ⟨.iface, 1, 16, [Go.Value.nilIface]⟩ := ⟨⟨Tryd.t48, _, by kernel_rfl, rfl, rfl, rfl, by kernel_rfl⟩, ⟨_, Tryd.underlying48⟩⟩
theorem tok49 : Wk.TOk Tryd.prog 49 ⟨.strct [(0, 1, 48)], 1, 16, [Go.Value.nilIface]⟩ := ⟨⟨Tryd.t49, _, by kernel_rfl, rfl, rfl, rfl, by kernel_rfl⟩, ⟨_, Tryd.underlying49, by kernel_rfl, Tryd.stoodInHeld49, by kernel_rfl⟩⟩
theorem tok50 : Wk.TOk Tryd.prog 50 ⟨.strct [(0, 1, 48)], 1, 16, [Go.Value.nilIface]⟩ := ⟨⟨Tryd.t50, _, by kernel_rfl, rfl, rfl, rfl, by kernel_rfl⟩, ⟨_, Tryd.underlying50, by kernel_rfl, Tryd.stoodInHeld50, by kernel_rfl⟩⟩
theorem tok51 : Wk.TOk Tryd.prog 51 ⟨.strct [(0, 1, 9)], 1, 16, [(Go.Value.string { data := #[] })]⟩ := ⟨⟨Tryd.t51, _, by kernel_rfl, rfl, rfl, rfl, by kernel_rfl⟩, ⟨_, Tryd.underlying51, by kernel_rfl, Tryd.stoodInHeld51, by kernel_rfl⟩⟩
theorem tok52 : Wk.TOk Tryd.prog 52 ⟨.strct [(0, 1, 9)], 1, 16, [(Go.Value.string { data := #[] })]⟩ := ⟨⟨Tryd.t52, _, by kernel_rfl, rfl, rfl, rfl, by kernel_rfl⟩, ⟨_, Tryd.underlying52, by kernel_rfl, Tryd.stoodInHeld52, by kernel_rfl⟩⟩
theorem tok53 : Wk.TOk Tryd.prog 53 ⟨.func, 1, 8, [Go.Value.nilFunc]⟩ := ⟨⟨Tryd.t53, _, by kernel_rfl, rfl, rfl, rfl, by kernel_rfl⟩, ⟨_, _, _, Tryd.underlying53⟩⟩
theorem tok54 : Wk.TOk Tryd.prog 54 ⟨.func, 1, 8, [Go.Value.nilFunc]⟩ := ⟨⟨Tryd.t54, _, by kernel_rfl, rfl, rfl, rfl, by kernel_rfl⟩, ⟨_, _, _, Tryd.underlying54⟩⟩
theorem tok55 : Wk.TOk Tryd.prog 55 ⟨.func, 1, 8, [Go.Value.nilFunc]⟩ := ⟨⟨Tryd.t55, _, by kernel_rfl, rfl, rfl, rfl, by kernel_rfl⟩, ⟨_, _, _, Tryd.underlying55⟩⟩
theorem tok56 : Wk.TOk Tryd.prog 56 ⟨.func, 1, 8, [Go.Value.nilFunc]⟩ := ⟨⟨Tryd.t56, _, by kernel_rfl, rfl, rfl, rfl, by kernel_rfl⟩, ⟨_, _, _, Tryd.underlying56⟩⟩
theorem tok57 : Wk.TOk Tryd.prog 57 ⟨.func, 1, 8, [Go.Value.nilFunc]⟩ := ⟨⟨Tryd.t57, _, by kernel_rfl, rfl, rfl, rfl, by kernel_rfl⟩, ⟨_, _, _, Tryd.underlying57⟩⟩
theorem tok58 : Wk.TOk Tryd.prog 58 ⟨.func, 1, 8, [Go.Value.nilFunc]⟩ := ⟨⟨Tryd.t58, _, by kernel_rfl, rfl, rfl, rfl, by kernel_rfl⟩, ⟨_, _, _, Tryd.underlying58⟩⟩
theorem tok59 : Wk.TOk Tryd.prog 59 ⟨.func, 1, 8, [Go.Value.nilFunc]⟩ := ⟨⟨Tryd.t59, _, by kernel_rfl, rfl, rfl, rfl, by kernel_rfl⟩, ⟨_, _, _, Tryd.underlying59⟩⟩
theorem tok60 : Wk.TOk Tryd.prog 60 ⟨.func, 1, 8, [Go.Value.nilFunc]⟩ := ⟨⟨Tryd.t60, _, by kernel_rfl, rfl, rfl, rfl, by kernel_rfl⟩, ⟨_, _, _, Tryd.underlying60⟩⟩
theorem tok61 : Wk.TOk Tryd.prog 61 ⟨.int Go.IntKind.u64, 1, 8, [(Go.Value.int Go.IntKind.u64 0)]⟩ := ⟨⟨Tryd.t61, _, by kernel_rfl, rfl, rfl, rfl, by kernel_rfl⟩, Tryd.underlying61⟩
theorem tok62 : Wk.TOk Tryd.prog 62 ⟨.func, 1, 8, [Go.Value.nilFunc]⟩ := ⟨⟨Tryd.t62, _, by kernel_rfl, rfl, rfl, rfl, by kernel_rfl⟩, ⟨_, _, _, Tryd.underlying62⟩⟩
theorem tok63 : Wk.TOk Tryd.prog 63 ⟨.arr 3 9, 3, 48, [(Go.Value.string { data := #[] }), (Go.Value.string { data := #[] }), (Go.Value.string { data := #[] })]⟩ := ⟨⟨Tryd.t63, _, by kernel_rfl, rfl, rfl, rfl, by kernel_rfl⟩, Tryd.underlying63⟩
theorem tok64 : Wk.TOk Tryd.prog 64 ⟨.slice 5, 1, 24, [(Go.Value.slice none 0 0)]⟩ := ⟨⟨Tryd.t64, _, by kernel_rfl, rfl, rfl, rfl, by kernel_rfl⟩, Tryd.underlying64⟩
theorem tok65 : Wk.TOk Tryd.prog 65 ⟨.func, 1, 8, [Go.Value.nilFunc]⟩ := ⟨⟨Tryd.t65, _, by kernel_rfl, rfl, rfl, rfl, by kernel_rfl⟩, ⟨_, _, _, Tryd.underlying65⟩⟩
theorem tok66 : Wk.TOk Tryd.prog 66 ⟨.func, 1, 8, [Go.Value.nilFunc]⟩ := ⟨⟨Tryd.t66, _, by kernel_rfl, rfl, rfl, rfl, by kernel_rfl⟩, ⟨_, _, _, Tryd.underlying66⟩⟩
theorem tok67 : Wk.TOk Tryd.prog 67 ⟨.func, 1, 8, [Go.Value.nilFunc]⟩ := ⟨⟨Tryd.t67, _, by kernel_rfl, rfl, rfl, rfl, by kernel_rfl⟩, ⟨_, _, _, Tryd.underlying67⟩⟩
theorem tok68 : Wk.TOk Tryd.prog 68 ⟨.func, 1, 8, [Go.Value.nilFunc]⟩ := ⟨⟨Tryd.t68, _, by kernel_rfl, rfl, rfl, rfl, by kernel_rfl⟩, ⟨_, _, _, Tryd.underlying68⟩⟩
theorem tok69 : Wk.TOk Tryd.prog 69 ⟨.func, 1, 8, [Go.Value.nilFunc]⟩ := ⟨⟨Tryd.t69, _, by kernel_rfl, rfl, rfl, rfl, by kernel_rfl⟩, ⟨_, _, _, Tryd.underlying69⟩⟩
theorem tok70 : Wk.TOk Tryd.prog 70 ⟨.int Go.IntKind.u64, 1, 8, [(Go.Value.int Go.IntKind.u64 0)]⟩ := ⟨⟨Tryd.t70, _, by kernel_rfl, rfl, rfl, rfl, by kernel_rfl⟩, Tryd.underlying70⟩
theorem tok71 : Wk.TOk Tryd.prog 71 ⟨.int Go.IntKind.u32, 1, 4, [(Go.Value.int Go.IntKind.u32 0)]⟩ := ⟨⟨Tryd.t71, _, by kernel_rfl, rfl, rfl, rfl, by kernel_rfl⟩, Tryd.underlying71⟩
theorem tok72 : Wk.TOk Tryd.prog 72 ⟨.arr 8 71, 8, 32, [(Go.Value.int Go.IntKind.u32 0), (Go.Value.int Go.IntKind.u32 0), (Go.Value.int Go.IntKind.u32 0), (Go.Value.int Go.IntKind.u32 0), (Go.Value.int Go.IntKind.u32 0), (Go.Value.int Go.IntKind.u32 0), (Go.Value.int Go.IntKind.u32 0), (Go.Value.int Go.IntKind.u32 0)]⟩ := ⟨⟨Tryd.t72, _, by kernel_rfl, rfl, rfl, rfl, by kernel_rfl⟩, Tryd.underlying72⟩
theorem tok73 : Wk.TOk Tryd.prog 73 ⟨.func, 1, 8, [Go.Value.nilFunc]⟩ := ⟨⟨Tryd.t73, _, by kernel_rfl, rfl, rfl, rfl, by kernel_rfl⟩, ⟨_, _, _, Tryd.underlying73⟩⟩
theorem tok74 : Wk.TOk Tryd.prog 74 ⟨.arr 64 71, 64, 256, [(Go.Value.int Go.IntKind.u32 0), (Go.Value.int Go.IntKind.u32 0), (Go.Value.int Go.IntKind.u32 0), (Go.Value.int Go.IntKind.u32 0), (Go.Value.int Go.IntKind.u32 0), (Go.Value.int Go.IntKind.u32 0), (Go.Value.int Go.IntKind.u32 0), (Go.Value.int Go.IntKind.u32 0), (Go.Value.int Go.IntKind.u32 0), (Go.Value.int Go.IntKind.u32 0), (Go.Value.int Go.IntKind.u32 0), (Go.Value.int Go.IntKind.u32 0), (Go.Value.int Go.IntKind.u32 0), (Go.Value.int Go.IntKind.u32 0), (Go.Value.int Go.IntKind.u32 0), (Go.Value.int Go.IntKind.u32 0), (Go.Value.int Go.IntKind.u32 0), (Go.Value.int Go.IntKind.u32 0), (Go.Value.int Go.IntKind.u32 0), (Go.Value.int Go.IntKind.u32 0), (Go.Value.int Go.IntKind.u32 0), (Go.Value.int Go.IntKind.u32 0), (Go.Value.int Go.IntKind.u32 0), (Go.Value.int Go.IntKind.u32 0), (Go.Value.int Go.IntKind.u32 0), (Go.Value.int Go.IntKind.u32 0), (Go.Value.int Go.IntKind.u32 0), (Go.Value.int Go.IntKind.u32 0), (Go.Value.int Go.IntKind.u32 0), (Go.Value.int Go.IntKind.u32 0), (Go.Value.int Go.IntKind.u32 0), (Go.Value.int Go.IntKind.u32 0), (Go.Value.int Go.IntKind.u32 0), (Go.Value.int Go.IntKind.u32 0), (Go.Value.int Go.IntKind.u32 0), (Go.Value.int Go.IntKind.u32 0), (Go.Value.int Go.IntKind.u32 0), (Go.Value.int Go.IntKind.u32 0), (Go.Value.int Go.IntKind.u32 0), (Go.Value.int Go.IntKind.u32 0), (Go.Value.int Go.IntKind.u32 0), (Go.Value.int Go.IntKind.u32 0), (Go.Value.int Go.IntKind.u32 0), (Go.Value.int Go.IntKind.u32 0), (Go.Value.int Go.IntKind.u32 0), (Go.Value.int Go.IntKind.u32 0), (Go.Value.int Go.IntKind.u32 0), (Go.Value.int Go.IntKind.u32 0), (Go.Value.int Go.IntKind.u32 0), (Go.Value.int Go.IntKind.u32 0), (Go.Value.int Go.IntKind.u32 0), (Go.Value.int Go.IntKind.u32 0), (Go.Value.int Go.IntKind.u32 0), (Go.Value.int Go.IntKind.u32 0), (Go.Value.int Go.IntKind.u32 0), (Go.Value.int Go.IntKind.u32 0), (Go.Value.int Go.IntKind.u32 0), (Go.Value.int Go.IntKind.u32 0), (Go.Value.int Go.IntKind.u32 0), (Go.Value.int Go.IntKind.u32 0), (Go.Value.int Go.IntKind.u32 0), (Go.Value.int Go.IntKind.u32 0), (Go.Value.int Go.IntKind.u32 0), (Go.Value.int Go.IntKind.u32 0)]⟩ := ⟨⟨Tryd.t74, _, by kernel_rfl, rfl, rfl, rfl, by kernel_rfl⟩, Tryd.underlying74⟩
theorem tok75 : Wk.TOk Tryd.prog 75 ⟨.func, 1, 8, [Go.Value.nilFunc]⟩ := ⟨⟨Tryd.t75, _, by kernel_rfl, rfl, rfl, rfl, by kernel_rfl⟩, ⟨_, _, _, Tryd.underlying75⟩⟩
theorem tok76 : Wk.TOk Tryd.prog 76 ⟨.func, 1, 8, [Go.Value.nilFunc]⟩ := ⟨⟨Tryd.t76, _, by kernel_rfl, rfl, rfl, rfl, by kernel_rfl⟩, ⟨_, _, _, Tryd.underlying76⟩⟩
theorem tok77 : Wk.TOk Tryd.prog 77 ⟨.func, 1, 8, [Go.Value.nilFunc]⟩ := ⟨⟨Tryd.t77, _, by kernel_rfl, rfl, rfl, rfl, by kernel_rfl⟩, ⟨_, _, _, Tryd.underlying77⟩⟩
theorem tok78 : Wk.TOk Tryd.prog 78 ⟨.func, 1, 8, [Go.Value.nilFunc]⟩ := ⟨⟨Tryd.t78, _, by kernel_rfl, rfl, rfl, rfl, by kernel_rfl⟩, ⟨_, _, _, Tryd.underlying78⟩⟩
theorem tok81 : Wk.TOk Tryd.prog 81 ⟨.arr 0 16, 0, 0, []⟩ := ⟨⟨Tryd.t81, _, by kernel_rfl, rfl, rfl, rfl, by kernel_rfl⟩, Tryd.underlying81⟩
theorem tok84 : Wk.TOk Tryd.prog 84 ⟨.func, 1, 8, [Go.Value.nilFunc]⟩ := ⟨⟨Tryd.t84, _, by kernel_rfl, rfl, rfl, rfl, by kernel_rfl⟩, ⟨_, _, _, Tryd.underlying84⟩⟩
theorem tok85 : Wk.TOk Tryd.prog 85 ⟨.int Go.IntKind.u8, 1, 1, [(Go.Value.int Go.IntKind.u8 0)]⟩ := ⟨⟨Tryd.t85, _, by kernel_rfl, rfl, rfl, rfl, by kernel_rfl⟩, Tryd.underlying85⟩
theorem tok86 : Wk.TOk Tryd.prog 86 ⟨.int Go.IntKind.u8, 1, 1, [(Go.Value.int Go.IntKind.u8 0)]⟩ := ⟨⟨Tryd.t86, _, by kernel_rfl, rfl, rfl, rfl, by kernel_rfl⟩, Tryd.underlying86⟩
theorem tok87 : Wk.TOk Tryd.prog 87 ⟨.func, 1, 8, [Go.Value.nilFunc]⟩ := ⟨⟨Tryd.t87, _, by kernel_rfl, rfl, rfl, rfl, by kernel_rfl⟩, ⟨_, _, _, Tryd.underlying87⟩⟩
theorem tok88 : Wk.TOk Tryd.prog 88 ⟨.ptr 5, 1, 8, [(Go.Value.pointer none)]⟩ := ⟨⟨Tryd.t88, _, by kernel_rfl, rfl, rfl, rfl, by kernel_rfl⟩, Tryd.underlying88⟩
theorem tok89 : Wk.TOk Tryd.prog 89 ⟨.int Go.IntKind.i32, 1, 4, [(Go.Value.int Go.IntKind.i32 0)]⟩ := ⟨⟨Tryd.t89, _, by kernel_rfl, rfl, rfl, rfl, by kernel_rfl⟩, Tryd.underlying89⟩
theorem tok90 : Wk.TOk Tryd.prog 90 ⟨.int Go.IntKind.i32, 1, 4, [(Go.Value.int Go.IntKind.i32 0)]⟩ := ⟨⟨Tryd.t90, _, by kernel_rfl, rfl, rfl, rfl, by kernel_rfl⟩, Tryd.underlying90⟩
theorem tok93 : Wk.TOk Tryd.prog 93 ⟨.func, 1, 8, [Go.Value.nilFunc]⟩ := ⟨⟨Tryd.t93, _, by kernel_rfl, rfl, rfl, rfl, by kernel_rfl⟩, ⟨_, _, _, Tryd.underlying93⟩⟩
theorem tok94 : Wk.TOk Tryd.prog 94 ⟨.func, 1, 8, [Go.Value.nilFunc]⟩ := ⟨⟨Tryd.t94, _, by kernel_rfl, rfl, rfl, rfl, by kernel_rfl⟩, ⟨_, _, _, Tryd.underlying94⟩⟩
theorem tok95 : Wk.TOk Tryd.prog 95 ⟨.func, 1, 8, [Go.Value.nilFunc]⟩ := ⟨⟨Tryd.t95, _, by kernel_rfl, rfl, rfl, rfl, by kernel_rfl⟩, ⟨_, _, _, Tryd.underlying95⟩⟩
theorem tok96 : Wk.TOk Tryd.prog 96 ⟨.arr 9 5, 9, 9, [(Go.Value.int Go.IntKind.u8 0), (Go.Value.int Go.IntKind.u8 0), (Go.Value.int Go.IntKind.u8 0), (Go.Value.int Go.IntKind.u8 0), (Go.Value.int Go.IntKind.u8 0), (Go.Value.int Go.IntKind.u8 0), (Go.Value.int Go.IntKind.u8 0), (Go.Value.int Go.IntKind.u8 0), (Go.Value.int Go.IntKind.u8 0)]⟩ := ⟨⟨Tryd.t96, _, by kernel_rfl, rfl, rfl, rfl, by kernel_rfl⟩, Tryd.underlying96⟩
theorem tok97 : Wk.TOk Tryd.prog 97 ⟨.func, 1, 8, [Go.Value.nilFunc]⟩ := ⟨⟨Tryd.t97, _, by kernel_rfl, rfl, rfl, rfl, by kernel_rfl⟩, ⟨_, _, _, Tryd.underlying97⟩⟩
theorem tok98 : Wk.TOk Tryd.prog 98 ⟨.func, 1, 8, [Go.Value.nilFunc]⟩ := ⟨⟨Tryd.t98, _, by kernel_rfl, rfl, rfl, rfl, by kernel_rfl⟩, ⟨_, _, _, Tryd.underlying98⟩⟩
theorem tok99 : Wk.TOk Tryd.prog 99 ⟨.func, 1, 8, [Go.Value.nilFunc]⟩ := ⟨⟨Tryd.t99, _, by kernel_rfl, rfl, rfl, rfl, by kernel_rfl⟩, ⟨_, _, _, Tryd.underlying99⟩⟩
theorem tok100 : Wk.TOk Tryd.prog 100 ⟨.func, 1, 8, [Go.Value.nilFunc]⟩ := ⟨⟨Tryd.t100, _, by kernel_rfl, rfl, rfl, rfl, by kernel_rfl⟩, ⟨_, _, _, Tryd.underlying100⟩⟩
theorem tok101 : Wk.TOk Tryd.prog 101 ⟨.func, 1, 8, [Go.Value.nilFunc]⟩ := ⟨⟨Tryd.t101, _, by kernel_rfl, rfl, rfl, rfl, by kernel_rfl⟩, ⟨_, _, _, Tryd.underlying101⟩⟩
theorem tok102 : Wk.TOk Tryd.prog 102 ⟨.func, 1, 8, [Go.Value.nilFunc]⟩ := ⟨⟨Tryd.t102, _, by kernel_rfl, rfl, rfl, rfl, by kernel_rfl⟩, ⟨_, _, _, Tryd.underlying102⟩⟩
theorem tok103 : Wk.TOk Tryd.prog 103 ⟨.ptr 112, 1, 8, [(Go.Value.pointer none)]⟩ := ⟨⟨Tryd.t103, _, by kernel_rfl, rfl, rfl, rfl, by kernel_rfl⟩, Tryd.underlying103⟩
theorem tok104 : Wk.TOk Tryd.prog 104 ⟨.func, 1, 8, [Go.Value.nilFunc]⟩ := ⟨⟨Tryd.t104, _, by kernel_rfl, rfl, rfl, rfl, by kernel_rfl⟩, ⟨_, _, _, Tryd.underlying104⟩⟩
theorem tok105 : Wk.TOk Tryd.prog 105 ⟨.func, 1, 8, [Go.Value.nilFunc]⟩ := ⟨⟨Tryd.t105, _, by kernel_rfl, rfl, rfl, rfl, by kernel_rfl⟩, ⟨_, _, _, Tryd.underlying105⟩⟩
theorem tok106 : Wk.TOk Tryd.prog 106 ⟨.func, 1, 8, [Go.Value.nilFunc]⟩ := ⟨⟨Tryd.t106, _, by kernel_rfl, rfl, rfl, rfl, by kernel_rfl⟩, ⟨_, _, _, Tryd.underlying106⟩⟩
theorem tok107 : Wk.TOk Tryd.prog 107 ⟨.ptr 117, 1, 8, [(Go.Value.pointer none)]⟩ := ⟨⟨Tryd.t107, _, by kernel_rfl, rfl, rfl, rfl, by kernel_rfl⟩, Tryd.underlying107⟩
theorem tok108 : Wk.TOk Tryd.prog 108 ⟨.strct [(0, 1, 107)], 1, 8, [(Go.Value.pointer none)]⟩ := ⟨⟨Tryd.t108, _, by kernel_rfl, rfl, rfl, rfl, by kernel_rfl⟩, ⟨_, Tryd.underlying108, by kernel_rfl, Tryd.stoodInHeld108, by kernel_rfl⟩⟩
theorem tok109 : Wk.TOk Tryd.prog 109 ⟨.strct [(0, 1, 107)], 1, 8, [(Go.Value.pointer none)]⟩ := ⟨⟨Tryd.t109, _, by kernel_rfl, rfl, rfl, rfl, by kernel_rfl⟩, ⟨_, Tryd.underlying109, by kernel_rfl, Tryd.stoodInHeld109, by kernel_rfl⟩⟩
theorem tok110 : Wk.TOk Tryd.prog 110 ⟨.func, 1, 8, [Go.Value.nilFunc]⟩ := ⟨⟨Tryd.t110, _, by kernel_rfl, rfl, rfl, rfl, by kernel_rfl⟩, ⟨_, _, _, Tryd.underlying110⟩⟩
theorem tok111 : Wk.TOk Tryd.prog 111 ⟨.strct [(0, 1, 109), (1, 1, 109)], 2, 16, [(Go.Value.pointer none), (Go.Value.pointer none)]⟩ := ⟨⟨Tryd.t111, _, by kernel_rfl, rfl, rfl, rfl, by kernel_rfl⟩, ⟨_, Tryd.underlying111, by kernel_rfl, Tryd.stoodInHeld111, by kernel_rfl⟩⟩
theorem tok112 : Wk.TOk Tryd.prog 112 ⟨.strct [(0, 1, 109), (1, 1, 109)], 2, 16, [(Go.Value.pointer none), (Go.Value.pointer none)]⟩ := ⟨⟨Tryd.t112, _, by kernel_rfl, rfl, rfl, rfl, by kernel_rfl⟩, ⟨_, Tryd.underlying112, by kernel_rfl, Tryd.stoodInHeld112, by kernel_rfl⟩⟩
theorem tok113 : Wk.TOk Tryd.prog 113 ⟨.func, 1, 8, [Go.Value.nilFunc]⟩ := ⟨⟨Tryd.t113, _, by kernel_rfl, rfl, rfl, rfl, by kernel_rfl⟩, ⟨_, _, _, Tryd.underlying113⟩⟩
theorem tok114 : Wk.TOk Tryd.prog 114 ⟨.func, 1, 8, [Go.Value.nilFunc]⟩ := ⟨⟨Tryd.t114, _, by kernel_rfl, rfl, rfl, rfl, by kernel_rfl⟩, ⟨_, _, _, Tryd.underlying114⟩⟩
theorem tok115 : Wk.TOk Tryd.prog 115 ⟨.arr 64 5, 64, 64, [(Go.Value.int Go.IntKind.u8 0), (Go.Value.int Go.IntKind.u8 0), (Go.Value.int Go.IntKind.u8 0), (Go.Value.int Go.IntKind.u8 0), (Go.Value.int Go.IntKind.u8 0), (Go.Value.int Go.IntKind.u8 0), (Go.Value.int Go.IntKind.u8 0), (Go.Value.int Go.IntKind.u8 0), (Go.Value.int Go.IntKind.u8 0), (Go.Value.int Go.IntKind.u8 0), (Go.Value.int Go.IntKind.u8 0), (Go.Value.int Go.IntKind.u8 0), (Go.Value.int Go.IntKind.u8 0), (Go.Value.int Go.IntKind.u8 0), (Go.Value.int Go.IntKind.u8 0), (Go.Value.int Go.IntKind.u8 0), (Go.Value.int Go.IntKind.u8 0), (Go.Value.int Go.IntKind.u8 0), (Go.Value.int Go.IntKind.u8 0), (Go.Value.int Go.IntKind.u8 0), (Go.Value.int Go.IntKind.u8 0), (Go.Value.int Go.IntKind.u8 0), (Go.Value.int Go.IntKind.u8 0), (Go.Value.int Go.IntKind.u8 0), (Go.Value.int Go.IntKind.u8 0), (Go.Value.int Go.IntKind.u8 0), (Go.Value.int Go.IntKind.u8 0), (Go.Value.int Go.IntKind.u8 0), (Go.Value.int Go.IntKind.u8 0), (Go.Value.int Go.IntKind.u8 0), (Go.Value.int Go.IntKind.u8 0), (Go.Value.int Go.IntKind.u8 0), (Go.Value.int Go.IntKind.u8 0), (Go.Value.int Go.IntKind.u8 0), (Go.Value.int Go.IntKind.u8 0), (Go.Value.int Go.IntKind.u8 0), (Go.Value.int Go.IntKind.u8 0), (Go.Value.int Go.IntKind.u8 0), (Go.Value.int Go.IntKind.u8 0), (Go.Value.int Go.IntKind.u8 0), (Go.Value.int Go.IntKind.u8 0), (Go.Value.int Go.IntKind.u8 0), (Go.Value.int Go.IntKind.u8 0), (Go.Value.int Go.IntKind.u8 0), (Go.Value.int Go.IntKind.u8 0), (Go.Value.int Go.IntKind.u8 0), (Go.Value.int Go.IntKind.u8 0), (Go.Value.int Go.IntKind.u8 0), (Go.Value.int Go.IntKind.u8 0), (Go.Value.int Go.IntKind.u8 0), (Go.Value.int Go.IntKind.u8 0), (Go.Value.int Go.IntKind.u8 0), (Go.Value.int Go.IntKind.u8 0), (Go.Value.int Go.IntKind.u8 0), (Go.Value.int Go.IntKind.u8 0), (Go.Value.int Go.IntKind.u8 0), (Go.Value.int Go.IntKind.u8 0), (Go.Value.int Go.IntKind.u8 0), (Go.Value.int Go.IntKind.u8 0), (Go.Value.int Go.IntKind.u8 0), (Go.Value.int Go.IntKind.u8 0), (Go.Value.int Go.IntKind.u8 0), (Go.Value.int Go.IntKind.u8 0), (Go.Value.int Go.IntKind.u8 0)]⟩ := ⟨⟨Tryd.t115, _, by kernel_rfl, rfl, rfl, rfl, by kernel_rfl⟩, Tryd.underlying115⟩
theorem tok118 : Wk.TOk Tryd.prog 118 ⟨.arr 16 71, 16, 64, [(Go.Value.int Go.IntKind.u32 0), (Go.Value.int Go.IntKind.u32 0), (Go.Value.int Go.IntKind.u32 0), (Go.Value.int Go.IntKind.u32 0), (Go.Value.int Go.IntKind.u32 0), (Go.Value.int Go.IntKind.u32 0), (Go.Value.int Go.IntKind.u32 0), (Go.Value.int Go.IntKind.u32 0), (Go.Value.int Go.IntKind.u32 0), (Go.Value.int Go.IntKind.u32 0), (Go.Value.int Go.IntKind.u32 0), (Go.Value.int Go.IntKind.u32 0), (Go.Value.int Go.IntKind.u32 0), (Go.Value.int Go.IntKind.u32 0), (Go.Value.int Go.IntKind.u32 0), (Go.Value.int Go.IntKind.u32 0)]⟩ := ⟨⟨Tryd.t118, _, by kernel_rfl, rfl, rfl, rfl, by kernel_rfl⟩, Tryd.underlying118⟩
theorem tok119 : Wk.TOk Tryd.prog 119 ⟨.func, 1, 8, [Go.Value.nilFunc]⟩ := ⟨⟨Tryd.t119, _, by kernel_rfl, rfl, rfl, rfl, by kernel_rfl⟩, ⟨_, _, _, Tryd.underlying119⟩⟩
theorem okT : Wk.Ok Tryd.prog TT := Wk.ok_of TTl ⟨tok1, tok2, tok3, tok4, tok5, tok6, tok7, tok8, tok9, tok10, tok11, tok12, tok15, tok16, tok17, tok20, tok21, tok22, tok23, tok24, tok25, tok27, tok29, tok30, tok31, tok32, tok33, tok34, tok36, tok38, tok39, tok40, tok41, tok42, tok43, tok44, tok45, tok46, tok47, tok48, tok49, tok50, tok51, tok52, tok53, tok54, tok55, tok56, tok57, tok58, tok59, tok60, tok61, tok62, tok63, tok64, tok65, tok66, tok67, tok68, tok69, tok70, tok71, tok72, tok73, tok74, tok75, tok76, tok77, tok78, tok81, tok84, tok85, tok86, tok87, tok88, tok89, tok90, tok93, tok94, tok95, tok96, tok97, tok98, tok99, tok100, tok101, tok102, tok103, tok104, tok105, tok106, tok107, tok108, tok109, tok110, tok111, tok112, tok113, tok114, tok115, tok118, tok119, trivial⟩ (by kernel_rfl) (by kernel_rfl)
theorem fok3 : Wk.FOk Tryd.prog 3 := ⟨Tryd.f3, Tryd.func3, by kernel_rfl, by kernel_rfl⟩
theorem fok4 : Wk.FOk Tryd.prog 4 := ⟨Tryd.f4, Tryd.func4, by kernel_rfl, by kernel_rfl⟩
theorem fok5 : Wk.FOk Tryd.prog 5 := ⟨Tryd.f5, Tryd.func5, by kernel_rfl, by kernel_rfl⟩
theorem fok6 : Wk.FOk Tryd.prog 6 := ⟨Tryd.f6, Tryd.func6, by kernel_rfl, by kernel_rfl⟩
theorem fok7 : Wk.FOk Tryd.prog 7 := ⟨Tryd.f7, Tryd.func7, by kernel_rfl, by kernel_rfl⟩
theorem fok8 : Wk.FOk Tryd.prog 8 := ⟨Tryd.f8, Tryd.func8, by kernel_rfl, by kernel_rfl⟩
theorem fok9 : Wk.FOk Tryd.prog 9 := ⟨Tryd.f9, Tryd.func9, by kernel_rfl, by kernel_rfl⟩
theorem fok10 : Wk.FOk Tryd.prog 10 := ⟨Tryd.f10, Tryd.func10, by kernel_rfl, by kernel_rfl⟩
theorem fok11 : Wk.FOk Tryd.prog 11 := ⟨Tryd.f11, Tryd.func11, by kernel_rfl, by kernel_rfl⟩
theorem fok12 : Wk.FOk Tryd.prog 12 := ⟨Tryd.f12, Tryd.func12, by kernel_rfl, by kernel_rfl⟩
theorem fok13 : Wk.FOk Tryd.prog 13 := ⟨Tryd.f13, Tryd.func13, by kernel_rfl, by kernel_rfl⟩
theorem fok14 : Wk.FOk Tryd.prog 14 := ⟨Tryd.f14, Tryd.func14, by kernel_rfl, by kernel_rfl⟩
theorem fok15 : Wk.FOk Tryd.prog 15 := ⟨Tryd.f15, Tryd.func15, by kernel_rfl, by kernel_rfl⟩
theorem fok16 : Wk.FOk Tryd.prog 16 := ⟨Tryd.f16, Tryd.func16, by kernel_rfl, by kernel_rfl⟩
theorem fok17 : Wk.FOk Tryd.prog 17 := ⟨Tryd.f17, Tryd.func17, by kernel_rfl, by kernel_rfl⟩
theorem fok18 : Wk.FOk Tryd.prog 18 := ⟨Tryd.f18, Tryd.func18, by kernel_rfl, by kernel_rfl⟩
theorem fok19 : Wk.FOk Tryd.prog 19 := ⟨Tryd.f19, Tryd.func19, by kernel_rfl, by kernel_rfl⟩
theorem fok20 : Wk.FOk Tryd.prog 20 := ⟨Tryd.f20, Tryd.func20, by kernel_rfl, by kernel_rfl⟩
theorem fok21 : Wk.FOk Tryd.prog 21 := ⟨Tryd.f21, Tryd.func21, by kernel_rfl, by kernel_rfl⟩
theorem fok22 : Wk.FOk Tryd.prog 22 := ⟨Tryd.f22, Tryd.func22, by kernel_rfl, by kernel_rfl⟩
theorem fok23 : Wk.FOk Tryd.prog 23 := ⟨Tryd.f23, Tryd.func23, by kernel_rfl, by kernel_rfl⟩
theorem fok24 : Wk.FOk Tryd.prog 24 := ⟨Tryd.f24, Tryd.func24, by kernel_rfl, by kernel_rfl⟩
theorem fok25 : Wk.FOk Tryd.prog 25 := ⟨Tryd.f25, Tryd.func25, by kernel_rfl, by kernel_rfl⟩
theorem fok26 : Wk.FOk Tryd.prog 26 := ⟨Tryd.f26, Tryd.func26, by kernel_rfl, by kernel_rfl⟩
theorem fok27 : Wk.FOk Tryd.prog 27 := ⟨Tryd.f27, Tryd.func27, by kernel_rfl, by kernel_rfl⟩
theorem fok28 : Wk.FOk Tryd.prog 28 := ⟨Tryd.f28, Tryd.func28, by kernel_rfl, by kernel_rfl⟩
theorem fok29 : Wk.FOk Tryd.prog 29 := ⟨Tryd.f29, Tryd.func29, by kernel_rfl, by kernel_rfl⟩
theorem fok30 : Wk.FOk Tryd.prog 30 := ⟨Tryd.f30, Tryd.func30, by kernel_rfl, by kernel_rfl⟩
theorem fok31 : Wk.FOk Tryd.prog 31 := ⟨Tryd.f31, Tryd.func31, by kernel_rfl, by kernel_rfl⟩
theorem fok32 : Wk.FOk Tryd.prog 32 := ⟨Tryd.f32, Tryd.func32, by kernel_rfl, by kernel_rfl⟩
theorem fok33 : Wk.FOk Tryd.prog 33 := ⟨Tryd.f33, Tryd.func33, by kernel_rfl, by kernel_rfl⟩
theorem fok34 : Wk.FOk Tryd.prog 34 := ⟨Tryd.f34, Tryd.func34, by kernel_rfl, by kernel_rfl⟩
theorem fok35 : Wk.FOk Tryd.prog 35 := ⟨Tryd.f35, Tryd.func35, by kernel_rfl, by kernel_rfl⟩
theorem fok36 : Wk.FOk Tryd.prog 36 := ⟨Tryd.f36, Tryd.func36, by kernel_rfl, by kernel_rfl⟩
theorem fok37 : Wk.FOk Tryd.prog 37 := ⟨Tryd.f37, Tryd.func37, by kernel_rfl, by kernel_rfl⟩
theorem fok38 : Wk.FOk Tryd.prog 38 := ⟨Tryd.f38, Tryd.func38, by kernel_rfl, by kernel_rfl⟩
theorem fok39 : Wk.FOk Tryd.prog 39 := ⟨Tryd.f39, Tryd.func39, by kernel_rfl, by kernel_rfl⟩
theorem fok40 : Wk.FOk Tryd.prog 40 := ⟨Tryd.f40, Tryd.func40, by kernel_rfl, by kernel_rfl⟩
theorem fok41 : Wk.FOk Tryd.prog 41 := ⟨Tryd.f41, Tryd.func41, by kernel_rfl, by kernel_rfl⟩
theorem fok42 : Wk.FOk Tryd.prog 42 := ⟨Tryd.f42, Tryd.func42, by kernel_rfl, by kernel_rfl⟩
theorem fok43 : Wk.FOk Tryd.prog 43 := ⟨Tryd.f43, Tryd.func43, by kernel_rfl, by kernel_rfl⟩
theorem fok44 : Wk.FOk Tryd.prog 44 := ⟨Tryd.f44, Tryd.func44, by kernel_rfl, by kernel_rfl⟩
theorem fok64 : Wk.FOk Tryd.prog 64 := ⟨Tryd.f64, Tryd.func64, by kernel_rfl, by kernel_rfl⟩
theorem fok65 : Wk.FOk Tryd.prog 65 := ⟨Tryd.f65, Tryd.func65, by kernel_rfl, by kernel_rfl⟩
theorem fok66 : Wk.FOk Tryd.prog 66 := ⟨Tryd.f66, Tryd.func66, by kernel_rfl, by kernel_rfl⟩
theorem fok67 : Wk.FOk Tryd.prog 67 := ⟨Tryd.f67, Tryd.func67, by kernel_rfl, by kernel_rfl⟩
theorem fok68 : Wk.FOk Tryd.prog 68 := ⟨Tryd.f68, Tryd.func68, by kernel_rfl, by kernel_rfl⟩
theorem fok69 : Wk.FOk Tryd.prog 69 := ⟨Tryd.f69, Tryd.func69, by kernel_rfl, by kernel_rfl⟩
theorem fok70 : Wk.FOk Tryd.prog 70 := ⟨Tryd.f70, Tryd.func70, by kernel_rfl, by kernel_rfl⟩
theorem fok71 : Wk.FOk Tryd.prog 71 := ⟨Tryd.f71, Tryd.func71, by kernel_rfl, by kernel_rfl⟩
theorem fok72 : Wk.FOk Tryd.prog 72 := ⟨Tryd.f72, Tryd.func72, by kernel_rfl, by kernel_rfl⟩
theorem fok73 : Wk.FOk Tryd.prog 73 := ⟨Tryd.f73, Tryd.func73, by kernel_rfl, by kernel_rfl⟩
theorem fok75 : Wk.FOk Tryd.prog 75 := ⟨Tryd.f75, Tryd.func75, by kernel_rfl, by kernel_rfl⟩
theorem fok78 : Wk.FOk Tryd.prog 78 := ⟨Tryd.f78, Tryd.func78, by kernel_rfl, by kernel_rfl⟩
theorem fok82 : Wk.FOk Tryd.prog 82 := ⟨Tryd.f82, Tryd.func82, by kernel_rfl, by kernel_rfl⟩
theorem fok83 : Wk.FOk Tryd.prog 83 := ⟨Tryd.f83, Tryd.func83, by kernel_rfl, by kernel_rfl⟩
theorem fok84 : Wk.FOk Tryd.prog 84 := ⟨Tryd.f84, Tryd.func84, by kernel_rfl, by kernel_rfl⟩
theorem fok85 : Wk.FOk Tryd.prog 85 := ⟨Tryd.f85, Tryd.func85, by kernel_rfl, by kernel_rfl⟩
theorem fok86 : Wk.FOk Tryd.prog 86 := ⟨Tryd.f86, Tryd.func86, by kernel_rfl, by kernel_rfl⟩
theorem fok87 : Wk.FOk Tryd.prog 87 := ⟨Tryd.f87, Tryd.func87, by kernel_rfl, by kernel_rfl⟩
theorem fok88 : Wk.FOk Tryd.prog 88 := ⟨Tryd.f88, Tryd.func88, by kernel_rfl, by kernel_rfl⟩
theorem fok89 : Wk.FOk Tryd.prog 89 := ⟨Tryd.f89, Tryd.func89, by kernel_rfl, by kernel_rfl⟩
theorem fok90 : Wk.FOk Tryd.prog 90 := ⟨Tryd.f90, Tryd.func90, by kernel_rfl, by kernel_rfl⟩
theorem fok91 : Wk.FOk Tryd.prog 91 := ⟨Tryd.f91, Tryd.func91, by kernel_rfl, by kernel_rfl⟩
theorem fok92 : Wk.FOk Tryd.prog 92 := ⟨Tryd.f92, Tryd.func92, by kernel_rfl, by kernel_rfl⟩
theorem fok93 : Wk.FOk Tryd.prog 93 := ⟨Tryd.f93, Tryd.func93, by kernel_rfl, by kernel_rfl⟩
theorem fok94 : Wk.FOk Tryd.prog 94 := ⟨Tryd.f94, Tryd.func94, by kernel_rfl, by kernel_rfl⟩
theorem fok95 : Wk.FOk Tryd.prog 95 := ⟨Tryd.f95, Tryd.func95, by kernel_rfl, by kernel_rfl⟩
theorem fok96 : Wk.FOk Tryd.prog 96 := ⟨Tryd.f96, Tryd.func96, by kernel_rfl, by kernel_rfl⟩
theorem fok97 : Wk.FOk Tryd.prog 97 := ⟨Tryd.f97, Tryd.func97, by kernel_rfl, by kernel_rfl⟩
theorem fok106 : Wk.FOk Tryd.prog 106 := ⟨Tryd.f106, Tryd.func106, by kernel_rfl, by kernel_rfl⟩
end Go.Proofs.YtbdiihilbcinpaaDoor
