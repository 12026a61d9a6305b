/-
  The table of the types of this seat's program, for the walking layer: made by a program (mkseat.py).
-/
import Derived.Test.YthnlmmkhehphiaaGreatDoorRows
import Derived.Test.YthnlmmkhehphiaaGreatDoorEaGs
import Derived.KernelRfl
namespace Go.Proofs.YthnlmmkhehphiaaGreatDoor
open Go
def TTl : List (Option Wk.TI) := [
  none,
  some ⟨.func, 1, 8, [Go.Value.nilFunc]⟩,
  some ⟨.int Go.IntKind.i64, 1, 8, [(Go.Value.int Go.IntKind.i64 0)]⟩,
  some ⟨.int Go.IntKind.i64, 1, 8, [(Go.Value.int Go.IntKind.i64 0)]⟩,
  some ⟨.bool, 1, 1, [(Go.Value.bool false)]⟩,
  some ⟨.int Go.IntKind.u8, 1, 1, [(Go.Value.int Go.IntKind.u8 0)]⟩,
  some ⟨.int Go.IntKind.u8, 1, 1, [(Go.Value.int Go.IntKind.u8 0)]⟩,
  some ⟨.strct [(0, 1, 2), (1, 1, 3), (2, 1, 4), (3, 1, 6)], 4, 24, [(Go.Value.int Go.IntKind.i64 0), (Go.Value.int Go.IntKind.i64 0), (Go.Value.bool false), (Go.Value.int Go.IntKind.u8 0)]⟩,
  some ⟨.strct [(0, 1, 2), (1, 1, 3), (2, 1, 4), (3, 1, 6)], 4, 24, [(Go.Value.int Go.IntKind.i64 0), (Go.Value.int Go.IntKind.i64 0), (Go.Value.bool false), (Go.Value.int Go.IntKind.u8 0)]⟩,
  some ⟨.string, 1, 16, [(Go.Value.string { data := #[] })]⟩,
  some ⟨.string, 1, 16, [(Go.Value.string { data := #[] })]⟩,
  some ⟨.string, 1, 16, [(Go.Value.string { data := #[] })]⟩,
  some ⟨.int Go.IntKind.u64, 1, 8, [(Go.Value.int Go.IntKind.u64 0)]⟩,
  none,
  none,
  some ⟨.ptr 193, 1, 8, [(Go.Value.pointer none)]⟩,
  some ⟨.ptr 196, 1, 8, [(Go.Value.pointer none)]⟩,
  some ⟨.ptr 203, 1, 8, [(Go.Value.pointer none)]⟩,
  none,
  none,
  some ⟨.iface, 1, 16, [Go.Value.nilIface]⟩,
  some ⟨.int Go.IntKind.i32, 1, 4, [(Go.Value.int Go.IntKind.i32 0)]⟩,
  some ⟨.strct [(0, 1, 3), (1, 1, 3), (2, 1, 3)], 3, 24, [(Go.Value.int Go.IntKind.i64 0), (Go.Value.int Go.IntKind.i64 0), (Go.Value.int Go.IntKind.i64 0)]⟩,
  some ⟨.strct [(0, 1, 3), (1, 1, 3), (2, 1, 3)], 3, 24, [(Go.Value.int Go.IntKind.i64 0), (Go.Value.int Go.IntKind.i64 0), (Go.Value.int Go.IntKind.i64 0)]⟩,
  some ⟨.slice 65, 1, 24, [(Go.Value.slice none 0 0)]⟩,
  some ⟨.strct [(0, 3, 23), (3, 1, 3), (4, 1, 24), (5, 1, 3)], 6, 64, [(Go.Value.int Go.IntKind.i64 0), (Go.Value.int Go.IntKind.i64 0), (Go.Value.int Go.IntKind.i64 0), (Go.Value.int Go.IntKind.i64 0), (Go.Value.slice none 0 0), (Go.Value.int Go.IntKind.i64 0)]⟩,
  some ⟨.strct [(0, 3, 23), (3, 1, 3), (4, 1, 24), (5, 1, 3)], 6, 64, [(Go.Value.int Go.IntKind.i64 0), (Go.Value.int Go.IntKind.i64 0), (Go.Value.int Go.IntKind.i64 0), (Go.Value.int Go.IntKind.i64 0), (Go.Value.slice none 0 0), (Go.Value.int Go.IntKind.i64 0)]⟩,
  some ⟨.func, 1, 8, [Go.Value.nilFunc]⟩,
  some ⟨.func, 1, 8, [Go.Value.nilFunc]⟩,
  some ⟨.ptr 75, 1, 8, [(Go.Value.pointer none)]⟩,
  some ⟨.int Go.IntKind.i64, 1, 8, [(Go.Value.int Go.IntKind.i64 0)]⟩,
  none,
  some ⟨.func, 1, 8, [Go.Value.nilFunc]⟩,
  none,
  some ⟨.func, 1, 8, [Go.Value.nilFunc]⟩,
  some ⟨.strct [(0, 1, 5), (1, 1, 9)], 2, 24, [(Go.Value.int Go.IntKind.u8 0), (Go.Value.string { data := #[] })]⟩,
  some ⟨.strct [(0, 1, 5), (1, 1, 9)], 2, 24, [(Go.Value.int Go.IntKind.u8 0), (Go.Value.string { data := #[] })]⟩,
  some ⟨.func, 1, 8, [Go.Value.nilFunc]⟩,
  some ⟨.func, 1, 8, [Go.Value.nilFunc]⟩,
  some ⟨.func, 1, 8, [Go.Value.nilFunc]⟩,
  some ⟨.func, 1, 8, [Go.Value.nilFunc]⟩,
  some ⟨.strct [(0, 1, 3), (1, 1, 3), (2, 1, 3), (3, 1, 3), (4, 1, 3), (5, 1, 9), (6, 1, 9)], 7, 72, [(Go.Value.int Go.IntKind.i64 0), (Go.Value.int Go.IntKind.i64 0), (Go.Value.int Go.IntKind.i64 0), (Go.Value.int Go.IntKind.i64 0), (Go.Value.int Go.IntKind.i64 0), (Go.Value.string { data := #[] }), (Go.Value.string { data := #[] })]⟩,
  some ⟨.strct [(0, 1, 3), (1, 1, 3), (2, 1, 3), (3, 1, 3), (4, 1, 3), (5, 1, 9), (6, 1, 9)], 7, 72, [(Go.Value.int Go.IntKind.i64 0), (Go.Value.int Go.IntKind.i64 0), (Go.Value.int Go.IntKind.i64 0), (Go.Value.int Go.IntKind.i64 0), (Go.Value.int Go.IntKind.i64 0), (Go.Value.string { data := #[] }), (Go.Value.string { data := #[] })]⟩,
  some ⟨.func, 1, 8, [Go.Value.nilFunc]⟩,
  some ⟨.func, 1, 8, [Go.Value.nilFunc]⟩,
  none,
  some ⟨.func, 1, 8, [Go.Value.nilFunc]⟩,
  some ⟨.func, 1, 8, [Go.Value.nilFunc]⟩,
  some ⟨.func, 1, 8, [Go.Value.nilFunc]⟩,
  some ⟨.func, 1, 8, [Go.Value.nilFunc]⟩,
  some ⟨.func, 1, 8, [Go.Value.nilFunc]⟩,
  some ⟨.func, 1, 8, [Go.Value.nilFunc]⟩,
  some ⟨.func, 1, 8, [Go.Value.nilFunc]⟩,
  some ⟨.func, 1, 8, [Go.Value.nilFunc]⟩,
  some ⟨.func, 1, 8, [Go.Value.nilFunc]⟩,
  some ⟨.func, 1, 8, [Go.Value.nilFunc]⟩,
  none,
  some ⟨.func, 1, 8, [Go.Value.nilFunc]⟩,
  some ⟨.func, 1, 8, [Go.Value.nilFunc]⟩,
  some ⟨.func, 1, 8, [Go.Value.nilFunc]⟩,
  none,
  some ⟨.func, 1, 8, [Go.Value.nilFunc]⟩,
  some ⟨.func, 1, 8, [Go.Value.nilFunc]⟩,
  some ⟨.func, 1, 8, [Go.Value.nilFunc]⟩,
  some ⟨.strct [(0, 1, 3), (1, 1, 9)], 2, 24, [(Go.Value.int Go.IntKind.i64 0), (Go.Value.string { data := #[] })]⟩,
  some ⟨.strct [(0, 1, 3), (1, 1, 9)], 2, 24, [(Go.Value.int Go.IntKind.i64 0), (Go.Value.string { data := #[] })]⟩,
  some ⟨.func, 1, 8, [Go.Value.nilFunc]⟩,
  some ⟨.slice 9, 1, 24, [(Go.Value.slice none 0 0)]⟩,
  none,
  some ⟨.func, 1, 8, [Go.Value.nilFunc]⟩,
  some ⟨.strct [], 0, 0, []⟩,
  some ⟨.strct [], 0, 0, []⟩,
  some ⟨.iface, 1, 16, [Go.Value.nilIface]⟩,
  some ⟨.iface, 1, 16, [Go.Value.nilIface]⟩,
  some ⟨.strct [(0, 1, 73)], 1, 16, [Go.Value.nilIface]⟩,
  some ⟨.strct [(0, 1, 73)], 1, 16, [Go.Value.nilIface]⟩,
  some ⟨.strct [(0, 1, 9)], 1, 16, [(Go.Value.string { data := #[] })]⟩,
  some ⟨.strct [(0, 1, 9)], 1, 16, [(Go.Value.string { data := #[] })]⟩,
  some ⟨.func, 1, 8, [Go.Value.nilFunc]⟩,
  some ⟨.func, 1, 8, [Go.Value.nilFunc]⟩,
  some ⟨.func, 1, 8, [Go.Value.nilFunc]⟩,
  some ⟨.func, 1, 8, [Go.Value.nilFunc]⟩,
  some ⟨.func, 1, 8, [Go.Value.nilFunc]⟩,
  some ⟨.func, 1, 8, [Go.Value.nilFunc]⟩,
  some ⟨.func, 1, 8, [Go.Value.nilFunc]⟩,
  some ⟨.func, 1, 8, [Go.Value.nilFunc]⟩,
  some ⟨.func, 1, 8, [Go.Value.nilFunc]⟩,
  some ⟨.strct [], 0, 0, []⟩,
  none,
  some ⟨.func, 1, 8, [Go.Value.nilFunc]⟩,
  some ⟨.func, 1, 8, [Go.Value.nilFunc]⟩,
  some ⟨.func, 1, 8, [Go.Value.nilFunc]⟩,
  some ⟨.func, 1, 8, [Go.Value.nilFunc]⟩,
  some ⟨.func, 1, 8, [Go.Value.nilFunc]⟩,
  some ⟨.ptr 42, 1, 8, [(Go.Value.pointer none)]⟩,
  some ⟨.ptr 3, 1, 8, [(Go.Value.pointer none)]⟩,
  some ⟨.strct [(0, 1, 95), (1, 1, 3), (2, 1, 3)], 3, 24, [(Go.Value.pointer none), (Go.Value.int Go.IntKind.i64 0), (Go.Value.int Go.IntKind.i64 0)]⟩,
  some ⟨.strct [(0, 1, 95), (1, 1, 3), (2, 1, 3)], 3, 24, [(Go.Value.pointer none), (Go.Value.int Go.IntKind.i64 0), (Go.Value.int Go.IntKind.i64 0)]⟩,
  none,
  some ⟨.func, 1, 8, [Go.Value.nilFunc]⟩,
  some ⟨.func, 1, 8, [Go.Value.nilFunc]⟩,
  some ⟨.func, 1, 8, [Go.Value.nilFunc]⟩,
  some ⟨.func, 1, 8, [Go.Value.nilFunc]⟩,
  some ⟨.func, 1, 8, [Go.Value.nilFunc]⟩,
  some ⟨.func, 1, 8, [Go.Value.nilFunc]⟩,
  some ⟨.func, 1, 8, [Go.Value.nilFunc]⟩,
  some ⟨.func, 1, 8, [Go.Value.nilFunc]⟩,
  some ⟨.func, 1, 8, [Go.Value.nilFunc]⟩,
  some ⟨.func, 1, 8, [Go.Value.nilFunc]⟩,
  some ⟨.func, 1, 8, [Go.Value.nilFunc]⟩,
  some ⟨.func, 1, 8, [Go.Value.nilFunc]⟩,
  some ⟨.func, 1, 8, [Go.Value.nilFunc]⟩,
  some ⟨.func, 1, 8, [Go.Value.nilFunc]⟩,
  some ⟨.func, 1, 8, [Go.Value.nilFunc]⟩,
  none,
  some ⟨.func, 1, 8, [Go.Value.nilFunc]⟩,
  none,
  some ⟨.func, 1, 8, [Go.Value.nilFunc]⟩,
  some ⟨.func, 1, 8, [Go.Value.nilFunc]⟩,
  some ⟨.func, 1, 8, [Go.Value.nilFunc]⟩,
  some ⟨.func, 1, 8, [Go.Value.nilFunc]⟩,
  some ⟨.func, 1, 8, [Go.Value.nilFunc]⟩,
  some ⟨.func, 1, 8, [Go.Value.nilFunc]⟩,
  some ⟨.func, 1, 8, [Go.Value.nilFunc]⟩,
  some ⟨.func, 1, 8, [Go.Value.nilFunc]⟩,
  some ⟨.func, 1, 8, [Go.Value.nilFunc]⟩,
  some ⟨.func, 1, 8, [Go.Value.nilFunc]⟩,
  some ⟨.int Go.IntKind.u64, 1, 8, [(Go.Value.int Go.IntKind.u64 0)]⟩,
  some ⟨.func, 1, 8, [Go.Value.nilFunc]⟩,
  some ⟨.func, 1, 8, [Go.Value.nilFunc]⟩,
  some ⟨.slice 3, 1, 24, [(Go.Value.slice none 0 0)]⟩,
  some ⟨.func, 1, 8, [Go.Value.nilFunc]⟩,
  some ⟨.func, 1, 8, [Go.Value.nilFunc]⟩,
  some ⟨.func, 1, 8, [Go.Value.nilFunc]⟩,
  some ⟨.slice 97, 1, 24, [(Go.Value.slice none 0 0)]⟩,
  none,
  some ⟨.func, 1, 8, [Go.Value.nilFunc]⟩,
  some ⟨.func, 1, 8, [Go.Value.nilFunc]⟩,
  none,
  some ⟨.func, 1, 8, [Go.Value.nilFunc]⟩,
  some ⟨.func, 1, 8, [Go.Value.nilFunc]⟩,
  some ⟨.func, 1, 8, [Go.Value.nilFunc]⟩,
  some ⟨.func, 1, 8, [Go.Value.nilFunc]⟩,
  some ⟨.func, 1, 8, [Go.Value.nilFunc]⟩,
  some ⟨.func, 1, 8, [Go.Value.nilFunc]⟩,
  some ⟨.func, 1, 8, [Go.Value.nilFunc]⟩,
  some ⟨.func, 1, 8, [Go.Value.nilFunc]⟩,
  none,
  some ⟨.func, 1, 8, [Go.Value.nilFunc]⟩,
  some ⟨.arr 3 9, 3, 48, [(Go.Value.string { data := #[] }), (Go.Value.string { data := #[] }), (Go.Value.string { data := #[] })]⟩,
  some ⟨.slice 5, 1, 24, [(Go.Value.slice none 0 0)]⟩,
  some ⟨.func, 1, 8, [Go.Value.nilFunc]⟩,
  some ⟨.func, 1, 8, [Go.Value.nilFunc]⟩,
  some ⟨.ptr 155, 1, 8, [(Go.Value.pointer none)]⟩,
  some ⟨.strct [(0, 1, 153), (1, 1, 150)], 2, 32, [(Go.Value.pointer none), (Go.Value.slice none 0 0)]⟩,
  some ⟨.strct [(0, 1, 153), (1, 1, 150)], 2, 32, [(Go.Value.pointer none), (Go.Value.slice none 0 0)]⟩,
  some ⟨.iface, 1, 16, [Go.Value.nilIface]⟩,
  some ⟨.iface, 1, 16, [Go.Value.nilIface]⟩,
  none,
  some ⟨.func, 1, 8, [Go.Value.nilFunc]⟩,
  some ⟨.func, 1, 8, [Go.Value.nilFunc]⟩,
  some ⟨.func, 1, 8, [Go.Value.nilFunc]⟩,
  some ⟨.arr 9 5, 9, 9, [(Go.Value.int Go.IntKind.u8 0), (Go.Value.int Go.IntKind.u8 0), (Go.Value.int Go.IntKind.u8 0), (Go.Value.int Go.IntKind.u8 0), (Go.Value.int Go.IntKind.u8 0), (Go.Value.int Go.IntKind.u8 0), (Go.Value.int Go.IntKind.u8 0), (Go.Value.int Go.IntKind.u8 0), (Go.Value.int Go.IntKind.u8 0)]⟩,
  some ⟨.int Go.IntKind.u64, 1, 8, [(Go.Value.int Go.IntKind.u64 0)]⟩,
  none,
  some ⟨.func, 1, 8, [Go.Value.nilFunc]⟩,
  none,
  some ⟨.func, 1, 8, [Go.Value.nilFunc]⟩,
  some ⟨.func, 1, 8, [Go.Value.nilFunc]⟩,
  some ⟨.func, 1, 8, [Go.Value.nilFunc]⟩,
  some ⟨.func, 1, 8, [Go.Value.nilFunc]⟩,
  some ⟨.strct [], 0, 0, []⟩,
  none,
  some ⟨.func, 1, 8, [Go.Value.nilFunc]⟩,
  some ⟨.strct [(0, 1, 30)], 1, 8, [(Go.Value.int Go.IntKind.i64 0)]⟩,
  some ⟨.strct [(0, 1, 30)], 1, 8, [(Go.Value.int Go.IntKind.i64 0)]⟩,
  some ⟨.int Go.IntKind.u32, 1, 4, [(Go.Value.int Go.IntKind.u32 0)]⟩,
  some ⟨.arr 8 176, 8, 32, [(Go.Value.int Go.IntKind.u32 0), (Go.Value.int Go.IntKind.u32 0), (Go.Value.int Go.IntKind.u32 0), (Go.Value.int Go.IntKind.u32 0), (Go.Value.int Go.IntKind.u32 0), (Go.Value.int Go.IntKind.u32 0), (Go.Value.int Go.IntKind.u32 0), (Go.Value.int Go.IntKind.u32 0)]⟩,
  some ⟨.func, 1, 8, [Go.Value.nilFunc]⟩,
  some ⟨.ptr 5, 1, 8, [(Go.Value.pointer none)]⟩,
  none,
  some ⟨.func, 1, 8, [Go.Value.nilFunc]⟩,
  some ⟨.arr 64 176, 64, 256, [(Go.Value.int Go.IntKind.u32 0), (Go.Value.int Go.IntKind.u32 0), (Go.Value.int Go.IntKind.u32 0), (Go.Value.int Go.IntKind.u32 0), (Go.Value.int Go.IntKind.u32 0), (Go.Value.int Go.IntKind.u32 0), (Go.Value.int Go.IntKind.u32 0), (Go.Value.int Go.IntKind.u32 0), (Go.Value.int Go.IntKind.u32 0), (Go.Value.int Go.IntKind.u32 0), (Go.Value.int Go.IntKind.u32 0), (Go.Value.int Go.IntKind.u32 0), (Go.Value.int Go.IntKind.u32 0), (Go.Value.int Go.IntKind.u32 0), (Go.Value.int Go.IntKind.u32 0), (Go.Value.int Go.IntKind.u32 0), (Go.Value.int Go.IntKind.u32 0), (Go.Value.int Go.IntKind.u32 0), (Go.Value.int Go.IntKind.u32 0), (Go.Value.int Go.IntKind.u32 0), (Go.Value.int Go.IntKind.u32 0), (Go.Value.int Go.IntKind.u32 0), (Go.Value.int Go.IntKind.u32 0), (Go.Value.int Go.IntKind.u32 0), (Go.Value.int Go.IntKind.u32 0), (Go.Value.int Go.IntKind.u32 0), (Go.Value.int Go.IntKind.u32 0), (Go.Value.int Go.IntKind.u32 0), (Go.Value.int Go.IntKind.u32 0), (Go.Value.int Go.IntKind.u32 0), (Go.Value.int Go.IntKind.u32 0), (Go.Value.int Go.IntKind.u32 0), (Go.Value.int Go.IntKind.u32 0), (Go.Value.int Go.IntKind.u32 0), (Go.Value.int Go.IntKind.u32 0), (Go.Value.int Go.IntKind.u32 0), (Go.Value.int Go.IntKind.u32 0), (Go.Value.int Go.IntKind.u32 0), (Go.Value.int Go.IntKind.u32 0), (Go.Value.int Go.IntKind.u32 0), (Go.Value.int Go.IntKind.u32 0), (Go.Value.int Go.IntKind.u32 0), (Go.Value.int Go.IntKind.u32 0), (Go.Value.int Go.IntKind.u32 0), (Go.Value.int Go.IntKind.u32 0), (Go.Value.int Go.IntKind.u32 0), (Go.Value.int Go.IntKind.u32 0), (Go.Value.int Go.IntKind.u32 0), (Go.Value.int Go.IntKind.u32 0), (Go.Value.int Go.IntKind.u32 0), (Go.Value.int Go.IntKind.u32 0), (Go.Value.int Go.IntKind.u32 0), (Go.Value.int Go.IntKind.u32 0), (Go.Value.int Go.IntKind.u32 0), (Go.Value.int Go.IntKind.u32 0), (Go.Value.int Go.IntKind.u32 0), (Go.Value.int Go.IntKind.u32 0), (Go.Value.int Go.IntKind.u32 0), (Go.Value.int Go.IntKind.u32 0), (Go.Value.int Go.IntKind.u32 0), (Go.Value.int Go.IntKind.u32 0), (Go.Value.int Go.IntKind.u32 0), (Go.Value.int Go.IntKind.u32 0), (Go.Value.int Go.IntKind.u32 0)]⟩,
  some ⟨.func, 1, 8, [Go.Value.nilFunc]⟩,
  some ⟨.func, 1, 8, [Go.Value.nilFunc]⟩,
  some ⟨.func, 1, 8, [Go.Value.nilFunc]⟩,
  none,
  some ⟨.func, 1, 8, [Go.Value.nilFunc]⟩,
  some ⟨.func, 1, 8, [Go.Value.nilFunc]⟩,
  some ⟨.func, 1, 8, [Go.Value.nilFunc]⟩,
  some ⟨.func, 1, 8, [Go.Value.nilFunc]⟩,
  some ⟨.func, 1, 8, [Go.Value.nilFunc]⟩,
  none,
  none,
  some ⟨.arr 0 16, 0, 0, []⟩,
  none,
  none,
  some ⟨.int Go.IntKind.u8, 1, 1, [(Go.Value.int Go.IntKind.u8 0)]⟩,
  some ⟨.int Go.IntKind.u8, 1, 1, [(Go.Value.int Go.IntKind.u8 0)]⟩,
  some ⟨.func, 1, 8, [Go.Value.nilFunc]⟩,
  some ⟨.int Go.IntKind.i32, 1, 4, [(Go.Value.int Go.IntKind.i32 0)]⟩,
  some ⟨.int Go.IntKind.i32, 1, 4, [(Go.Value.int Go.IntKind.i32 0)]⟩,
  none,
  none,
  some ⟨.func, 1, 8, [Go.Value.nilFunc]⟩,
  some ⟨.func, 1, 8, [Go.Value.nilFunc]⟩,
  some ⟨.ptr 215, 1, 8, [(Go.Value.pointer none)]⟩,
  some ⟨.func, 1, 8, [Go.Value.nilFunc]⟩,
  some ⟨.func, 1, 8, [Go.Value.nilFunc]⟩,
  some ⟨.func, 1, 8, [Go.Value.nilFunc]⟩,
  some ⟨.ptr 220, 1, 8, [(Go.Value.pointer none)]⟩,
  some ⟨.strct [(0, 1, 210)], 1, 8, [(Go.Value.pointer none)]⟩,
  some ⟨.strct [(0, 1, 210)], 1, 8, [(Go.Value.pointer none)]⟩,
  some ⟨.func, 1, 8, [Go.Value.nilFunc]⟩,
  some ⟨.strct [(0, 1, 212), (1, 1, 212)], 2, 16, [(Go.Value.pointer none), (Go.Value.pointer none)]⟩,
  some ⟨.strct [(0, 1, 212), (1, 1, 212)], 2, 16, [(Go.Value.pointer none), (Go.Value.pointer none)]⟩,
  some ⟨.func, 1, 8, [Go.Value.nilFunc]⟩,
  some ⟨.func, 1, 8, [Go.Value.nilFunc]⟩,
  some ⟨.arr 64 5, 64, 64, [(Go.Value.int Go.IntKind.u8 0), (Go.Value.int Go.IntKind.u8 0), (Go.Value.int Go.IntKind.u8 0), (Go.Value.int Go.IntKind.u8 0), (Go.Value.int Go.IntKind.u8 0), (Go.Value.int Go.IntKind.u8 0), (Go.Value.int Go.IntKind.u8 0), (Go.Value.int Go.IntKind.u8 0), (Go.Value.int Go.IntKind.u8 0), (Go.Value.int Go.IntKind.u8 0), (Go.Value.int Go.IntKind.u8 0), (Go.Value.int Go.IntKind.u8 0), (Go.Value.int Go.IntKind.u8 0), (Go.Value.int Go.IntKind.u8 0), (Go.Value.int Go.IntKind.u8 0), (Go.Value.int Go.IntKind.u8 0), (Go.Value.int Go.IntKind.u8 0), (Go.Value.int Go.IntKind.u8 0), (Go.Value.int Go.IntKind.u8 0), (Go.Value.int Go.IntKind.u8 0), (Go.Value.int Go.IntKind.u8 0), (Go.Value.int Go.IntKind.u8 0), (Go.Value.int Go.IntKind.u8 0), (Go.Value.int Go.IntKind.u8 0), (Go.Value.int Go.IntKind.u8 0), (Go.Value.int Go.IntKind.u8 0), (Go.Value.int Go.IntKind.u8 0), (Go.Value.int Go.IntKind.u8 0), (Go.Value.int Go.IntKind.u8 0), (Go.Value.int Go.IntKind.u8 0), (Go.Value.int Go.IntKind.u8 0), (Go.Value.int Go.IntKind.u8 0), (Go.Value.int Go.IntKind.u8 0), (Go.Value.int Go.IntKind.u8 0), (Go.Value.int Go.IntKind.u8 0), (Go.Value.int Go.IntKind.u8 0), (Go.Value.int Go.IntKind.u8 0), (Go.Value.int Go.IntKind.u8 0), (Go.Value.int Go.IntKind.u8 0), (Go.Value.int Go.IntKind.u8 0), (Go.Value.int Go.IntKind.u8 0), (Go.Value.int Go.IntKind.u8 0), (Go.Value.int Go.IntKind.u8 0), (Go.Value.int Go.IntKind.u8 0), (Go.Value.int Go.IntKind.u8 0), (Go.Value.int Go.IntKind.u8 0), (Go.Value.int Go.IntKind.u8 0), (Go.Value.int Go.IntKind.u8 0), (Go.Value.int Go.IntKind.u8 0), (Go.Value.int Go.IntKind.u8 0), (Go.Value.int Go.IntKind.u8 0), (Go.Value.int Go.IntKind.u8 0), (Go.Value.int Go.IntKind.u8 0), (Go.Value.int Go.IntKind.u8 0), (Go.Value.int Go.IntKind.u8 0), (Go.Value.int Go.IntKind.u8 0), (Go.Value.int Go.IntKind.u8 0), (Go.Value.int Go.IntKind.u8 0), (Go.Value.int Go.IntKind.u8 0), (Go.Value.int Go.IntKind.u8 0), (Go.Value.int Go.IntKind.u8 0), (Go.Value.int Go.IntKind.u8 0), (Go.Value.int Go.IntKind.u8 0), (Go.Value.int Go.IntKind.u8 0)]⟩,
  none,
  none,
  some ⟨.arr 16 176, 16, 64, [(Go.Value.int Go.IntKind.u32 0), (Go.Value.int Go.IntKind.u32 0), (Go.Value.int Go.IntKind.u32 0), (Go.Value.int Go.IntKind.u32 0), (Go.Value.int Go.IntKind.u32 0), (Go.Value.int Go.IntKind.u32 0), (Go.Value.int Go.IntKind.u32 0), (Go.Value.int Go.IntKind.u32 0), (Go.Value.int Go.IntKind.u32 0), (Go.Value.int Go.IntKind.u32 0), (Go.Value.int Go.IntKind.u32 0), (Go.Value.int Go.IntKind.u32 0), (Go.Value.int Go.IntKind.u32 0), (Go.Value.int Go.IntKind.u32 0), (Go.Value.int Go.IntKind.u32 0), (Go.Value.int Go.IntKind.u32 0)]⟩,
  some ⟨.func, 1, 8, [Go.Value.nilFunc]⟩]
def TT : Wk.Tab := Wk.nth TTl
theorem TT_eq (t : Nat) : TT t = Wk.nth TTl t := rfl
theorem tok1 : Wk.TOk Tryz.prog 1 ⟨.func, 1, 8, [Go.Value.nilFunc]⟩ := ⟨⟨Tryz.t1, _, by kernel_rfl, rfl, rfl, rfl, by kernel_rfl⟩, ⟨_, _, _, Tryz.underlying1⟩, by kernel_rfl⟩
theorem tok2 : Wk.TOk Tryz.prog 2 ⟨.int Go.IntKind.i64, 1, 8, [(Go.Value.int Go.IntKind.i64 0)]⟩ := ⟨⟨Tryz.t2, _, by kernel_rfl, rfl, rfl, rfl, by kernel_rfl⟩, Tryz.underlying2, by kernel_rfl⟩
theorem tok3 : Wk.TOk Tryz.prog 3 ⟨.int Go.IntKind.i64, 1, 8, [(Go.Value.int Go.IntKind.i64 0)]⟩ := ⟨⟨Tryz.t3, _, by kernel_rfl, rfl, rfl, rfl, by kernel_rfl⟩, Tryz.underlying3, by kernel_rfl⟩
theorem tok4 : Wk.TOk Tryz.prog 4 ⟨.bool, 1, 1, [(Go.Value.bool false)]⟩ := ⟨⟨Tryz.t4, _, by kernel_rfl, rfl, rfl, rfl, by kernel_rfl⟩, Tryz.underlying4, by kernel_rfl⟩
theorem tok5 : Wk.TOk Tryz.prog 5 ⟨.int Go.IntKind.u8, 1, 1, [(Go.Value.int Go.IntKind.u8 0)]⟩ := ⟨⟨Tryz.t5, _, by kernel_rfl, rfl, rfl, rfl, by kernel_rfl⟩, Tryz.underlying5, by kernel_rfl⟩
theorem tok6 : Wk.TOk Tryz.prog 6 ⟨.int Go.IntKind.u8, 1, 1, [(Go.Value.int Go.IntKind.u8 0)]⟩ := ⟨⟨Tryz.t6, _, by kernel_rfl, rfl, rfl, rfl, by kernel_rfl⟩, Tryz.underlying6, by kernel_rfl⟩
theorem tok7 : Wk.TOk Tryz.prog 7 ⟨.strct [(0, 1, 2), (1, 1, 3), (2, 1, 4), (3, 1, 6)], 4, 24, [(Go.Value.int Go.IntKind.i64 0), (Go.Value.int Go.IntKind.i64 0), (Go.Value.bool false), (Go.Value.int Go.IntKind.u8 0)]⟩ := ⟨⟨Tryz.t7, _, by kernel_rfl, rfl, rfl, rfl, by kernel_rfl⟩, ⟨_, Tryz.underlying7, by kernel_rfl, Tryz.stoodInHeld7, by kernel_rfl⟩, by kernel_rfl⟩
theorem tok8 : Wk.TOk Tryz.prog 8 ⟨.strct [(0, 1, 2), (1, 1, 3), (2, 1, 4), (3, 1, 6)], 4, 24, [(Go.Value.int Go.IntKind.i64 0), (Go.Value.int Go.IntKind.i64 0), (Go.Value.bool false), (Go.Value.int Go.IntKind.u8 0)]⟩ := ⟨⟨Tryz.t8, _, by kernel_rfl, rfl, rfl, rfl, by kernel_rfl⟩, ⟨_, Tryz.underlying8, by kernel_rfl, Tryz.stoodInHeld8, by kernel_rfl⟩, by kernel_rfl⟩
theorem tok9 : Wk.TOk Tryz.prog 9 ⟨.string, 1, 16, [(Go.Value.string { data := #[] })]⟩ := ⟨⟨Tryz.t9, _, by kernel_rfl, rfl, rfl, rfl, by kernel_rfl⟩, Tryz.underlying9, by kernel_rfl⟩
theorem tok10 : Wk.TOk Tryz.prog 10 ⟨.string, 1, 16, [(Go.Value.string { data := #[] })]⟩ := ⟨⟨Tryz.t10, _, by kernel_rfl, rfl, rfl, rfl, by kernel_rfl⟩, Tryz.underlying10, by kernel_rfl⟩
theorem tok11 : Wk.TOk Tryz.prog 11 ⟨.string, 1, 16, [(Go.Value.string { data := #[] })]⟩ := ⟨⟨Tryz.t11, _, by kernel_rfl, rfl, rfl, rfl, by kernel_rfl⟩, Tryz.underlying11, by kernel_rfl⟩
theorem tok12 : Wk.TOk Tryz.prog 12 ⟨.int Go.IntKind.u64, 1, 8, [(Go.Value.int Go.IntKind.u64 0)]⟩ := ⟨⟨Tryz.t12, _, by kernel_rfl, rfl, rfl, rfl, by kernel_rfl⟩, Tryz.underlying12, by kernel_rfl⟩
theorem tok15 : Wk.TOk Tryz.prog 15 ⟨.ptr 193, 1, 8, [(Go.Value.pointer none)]⟩ := ⟨⟨Tryz.t15, _, by kernel_rfl, rfl, rfl, rfl, by kernel_rfl⟩, Tryz.underlying15, by kernel_rfl⟩
theorem tok16 : Wk.TOk Tryz.prog 16 ⟨.ptr 196, 1, 8, [(Go.Value.pointer none)]⟩ := ⟨⟨Tryz.t16, _, by kernel_rfl, rfl, rfl, rfl, by kernel_rfl⟩, Tryz.underlying16, by kernel_rfl⟩
theorem tok17 : Wk.TOk Tryz.prog 17 ⟨.ptr 203, 1, 8, [(Go.Value.pointer none)]⟩ := ⟨⟨Tryz.t17, _, by kernel_rfl, rfl, rfl, rfl, by kernel_rfl⟩, Tryz.underlying17, by kernel_rfl⟩
theorem tok20 : Wk.TOk Tryz.prog 20 ⟨.iface, 1, 16, [Go.Value.nilIface]⟩ := ⟨⟨Tryz.t20, _, by kernel_rfl, rfl, rfl, rfl, by kernel_rfl⟩, ⟨_, Tryz.underlying20⟩, by kernel_rfl⟩
theorem tok21 : Wk.TOk Tryz.prog 21 ⟨.int Go.IntKind.i32, 1, 4, [(Go.Value.int Go.IntKind.i32 0)]⟩ := ⟨⟨Tryz.t21, _, by kernel_rfl, rfl, rfl, rfl, by kernel_rfl⟩, Tryz.underlying21, by kernel_rfl⟩
theorem tok22 : Wk.TOk Tryz.prog 22 ⟨.strct [(0, 1, 3), (1, 1, 3), (2, 1, 3)], 3, 24, [(Go.Value.int Go.IntKind.i64 0), (Go.Value.int Go.IntKind.i64 0), (Go.Value.int Go.IntKind.i64 0)]⟩ := ⟨⟨Tryz.t22, _, by kernel_rfl, rfl, rfl, rfl, by kernel_rfl⟩, ⟨_, Tryz.underlying22, by kernel_rfl, Tryz.stoodInHeld22, by kernel_rfl⟩, by kernel_rfl⟩
theorem tok23 : Wk.TOk Tryz.prog 23 ⟨.strct [(0, 1, 3), (1, 1, 3), (2, 1, 3)], 3, 24, [(Go.Value.int Go.IntKind.i64 0), (Go.Value.int Go.IntKind.i64 0), (Go.Value.int Go.IntKind.i64 0)]⟩ := ⟨⟨Tryz.t23, _, by kernel_rfl, rfl, rfl, rfl, by kernel_rfl⟩, ⟨_, Tryz.underlying23, by kernel_rfl, Tryz.stoodInHeld23, by kernel_rfl⟩, by kernel_rfl⟩
theorem tok24 : Wk.TOk Tryz.prog 24 ⟨.slice 65, 1, 24, [(Go.Value.slice none 0 0)]⟩ := ⟨⟨Tryz.t24, _, by kernel_rfl, rfl, rfl, rfl, by kernel_rfl⟩, Tryz.underlying24, by kernel_rfl⟩
theorem tok25 : Wk.TOk Tryz.prog 25 ⟨.strct [(0, 3, 23), (3, 1, 3), (4, 1, 24), (5, 1, 3)], 6, 64, [(Go.Value.int Go.IntKind.i64 0), (Go.Value.int Go.IntKind.i64 0), (Go.Value.int Go.IntKind.i64 0), (Go.Value.int Go.IntKind.i64 0), (Go.Value.slice none 0 0), (Go.Value.int Go.IntKind.i64 0)]⟩ := ⟨⟨Tryz.t25, _, by kernel_rfl, rfl, rfl, rfl, by kernel_rfl⟩, ⟨_, Tryz.underlying25, by kernel_rfl, Tryz.stoodInHeld25, by kernel_rfl⟩, by kernel_rfl⟩
theorem tok26 : Wk.TOk Tryz.prog 26 ⟨.strct [(0, 3, 23), (3, 1, 3), (4, 1, 24), (5, 1, 3)], 6, 64, [(Go.Value.int Go.IntKind.i64 0), (Go.Value.int Go.IntKind.i64 0), (Go.Value.int Go.IntKind.i64 0), (Go.Value.int Go.IntKind.i64 0), (Go.Value.slice none 0 0), (Go.Value.int Go.IntKind.i64 0)]⟩ := ⟨⟨Tryz.t26, _, by kernel_rfl, rfl, rfl, rfl, by kernel_rfl⟩, ⟨_, Tryz.underlying26, by kernel_rfl, Tryz.stoodInHeld26, by kernel_rfl⟩, by kernel_rfl⟩
theorem tok27 : Wk.TOk Tryz.prog 27 ⟨.func, 1, 8, [Go.Value.nilFunc]⟩ := ⟨⟨Tryz.t27, _, by kernel_rfl, rfl, rfl, rfl, by kernel_rfl⟩, ⟨_, _, _, Tryz.underlying27⟩, by kernel_rfl⟩
theorem tok28 : Wk.TOk Tryz.prog 28 ⟨.func, 1, 8, [Go.Value.nilFunc]⟩ := ⟨⟨Tryz.t28, _, by kernel_rfl, rfl, rfl, rfl, by kernel_rfl⟩, ⟨_, _, _, Tryz.underlying28⟩, by kernel_rfl⟩
theorem tok29 : Wk.TOk Tryz.prog 29 ⟨.ptr 75, 1, 8, [(Go.Value.pointer none)]⟩ := ⟨⟨Tryz.t29, _, by kernel_rfl, rfl, rfl, rfl, by kernel_rfl⟩, Tryz.underlying29, by kernel_rfl⟩
theorem tok30 : Wk.TOk Tryz.prog 30 ⟨.int Go.IntKind.i64, 1, 8, [(Go.Value.int Go.IntKind.i64 0)]⟩ := ⟨⟨Tryz.t30, _, by kernel_rfl, rfl, rfl, rfl, by kernel_rfl⟩, Tryz.underlying30, by kernel_rfl⟩
theorem tok32 : Wk.TOk Tryz.prog 32 ⟨.func, 1, 8, [Go.Value.nilFunc]⟩ := ⟨⟨Tryz.t32, _, by kernel_rfl, rfl, rfl, rfl, by kernel_rfl⟩, ⟨_, _, _, Tryz.underlying32⟩, by kernel_rfl⟩
theorem tok34 : Wk.TOk Tryz.prog 34 ⟨.func, 1, 8, [Go.Value.nilFunc]⟩ := ⟨⟨Tryz.t34, _, by kernel_rfl, rfl, rfl, rfl, by kernel_rfl⟩, ⟨_, _, _, Tryz.underlying34⟩, by kernel_rfl⟩
theorem tok35 : Wk.TOk Tryz.prog 35 ⟨.strct [(0, 1, 5), (1, 1, 9)], 2, 24, [(Go.Value.int Go.IntKind.u8 0), (Go.Value.string { data := #[] })]⟩ := ⟨⟨Tryz.t35, _, by kernel_rfl, rfl, rfl, rfl, by kernel_rfl⟩, ⟨_, Tryz.underlying35, by kernel_rfl, Tryz.stoodInHeld35, by kernel_rfl⟩, by kernel_rfl⟩
theorem tok36 : Wk.TOk Tryz.prog 36 ⟨.strct [(0, 1, 5), (1, 1, 9)], 2, 24, [(Go.Value.int Go.IntKind.u8 0), (Go.Value.string { data := #[] })]⟩ := ⟨⟨Tryz.t36, _, by kernel_rfl, rfl, rfl, rfl, by kernel_rfl⟩, ⟨_, Tryz.underlying36, by kernel_rfl, Tryz.stoodInHeld36, by kernel_rfl⟩, by kernel_rfl⟩
theorem tok37 : Wk.TOk Tryz.prog 37 ⟨.func, 1, 8, [Go.Value.nilFunc]⟩ := ⟨⟨Tryz.t37, _, by kernel_rfl, rfl, rfl, rfl, by kernel_rfl⟩, ⟨_, _, _, Tryz.underlying37⟩, by kernel_rfl⟩
theorem tok38 : Wk.TOk Tryz.prog 38 ⟨.func, 1, 8, [Go.Value.nilFunc]⟩ := ⟨⟨Tryz.t38, _, by kernel_rfl, rfl, rfl, rfl, by kernel_rfl⟩, ⟨_, _, _, Tryz.underlying38⟩, by kernel_rfl⟩
theorem tok39 : Wk.TOk Tryz.prog 39 ⟨.func, 1, 8, [Go.Value.nilFunc]⟩ := ⟨⟨Tryz.t39, _, by kernel_rfl, rfl, rfl, rfl, by kernel_rfl⟩, ⟨_, _, _, Tryz.underlying39⟩, by kernel_rfl⟩
theorem tok40 : Wk.TOk Tryz.prog 40 ⟨.func, 1, 8, [Go.Value.nilFunc]⟩ := ⟨⟨Tryz.t40, _, by kernel_rfl, rfl, rfl, rfl, by kernel_rfl⟩, ⟨_, _, _, Tryz.underlying40⟩, by kernel_rfl⟩
theorem tok41 : Wk.TOk Tryz.prog 41 ⟨.strct [(0, 1, 3), (1, 1, 3), (2, 1, 3), (3, 1, 3), (4, 1, 3), (5, 1, 9), (6, 1, 9)], 7, 72, [(Go.Value.int Go.IntKind.i64 0), (Go.Value.int Go.IntKind.i64 0), (Go.Value.int Go.IntKind.i64 0), (Go.Value.int Go.IntKind.i64 0), (Go.Value.int Go.IntKind.i64 0), (Go.Value.string { data := #[] }), (Go.Value.string { data := #[] })]⟩ := ⟨⟨Tryz.t41, _, by kernel_rfl, rfl, rfl, rfl, by kernel_rfl⟩, ⟨_, Tryz.underlying41, by kernel_rfl, Tryz.stoodInHeld41, by kernel_rfl⟩, by kernel_rfl⟩
theorem tok42 : Wk.TOk Tryz.prog 42 ⟨.strct [(0, 1, 3), (1, 1, 3), (2, 1, 3), (3, 1, 3), (4, 1, 3), (5, 1, 9), (6, 1, 9)], 7, 72, [(Go.Value.int Go.IntKind.i64 0), (Go.Value.int Go.IntKind.i64 0), (Go.Value.int Go.IntKind.i64 0), (Go.Value.int Go.IntKind.i64 0), (Go.Value.int Go.IntKind.i64 0), (Go.Value.string { data := #[] }), (Go.Value.string { data := #[] })]⟩ := ⟨⟨Tryz.t42, _, by kernel_rfl, rfl, rfl, rfl, by kernel_rfl⟩, ⟨_, Tryz.underlying42, by kernel_rfl, Tryz.stoodInHeld42, by kernel_rfl⟩, by kernel_rfl⟩
theorem tok43 : Wk.TOk Tryz.prog 43 ⟨.func, 1, 8, [Go.Value.nilFunc]⟩ := ⟨⟨Tryz.t43, _, by kernel_rfl, rfl, rfl, rfl, by kernel_rfl⟩, ⟨_, _, _, Tryz.underlying43⟩, by kernel_rfl⟩
theorem tok44 : Wk.TOk Tryz.prog 44 ⟨.func, 1, 8, [Go.Value.nilFunc]⟩ := ⟨⟨Tryz.t44, _, by kernel_rfl, rfl, rfl, rfl, by kernel_rfl⟩, ⟨_, _, _, Tryz.underlying44⟩, by kernel_rfl⟩
theorem tok46 : Wk.TOk Tryz.prog 46 ⟨.func, 1, 8, [Go.Value.nilFunc]⟩ := ⟨⟨Tryz.t46, _, by kernel_rfl, rfl, rfl, rfl, by kernel_rfl⟩, ⟨_, _, _, Tryz.underlying46⟩, by kernel_rfl⟩
theorem tok47 : Wk.TOk Tryz.prog 47 ⟨.func, 1, 8, [Go.Value.nilFunc]⟩ := ⟨⟨Tryz.t47, _, by kernel_rfl, rfl, rfl, rfl, by kernel_rfl⟩, ⟨_, _, _, Tryz.underlying47⟩, by kernel_rfl⟩
theorem tok48 : Wk.TOk Tryz.prog 48 ⟨.func, 1, 8, [Go.Value.nilFunc]⟩ := ⟨⟨Tryz.t48, _, by kernel_rfl, rfl, rfl, rfl, by kernel_rfl⟩, ⟨_, _, _, Tryz.underlying48⟩, by kernel_rfl⟩
theorem tok49 : Wk.TOk Tryz.prog 49 ⟨.func, 1, 8, [Go.Value.nilFunc]⟩ := ⟨⟨Tryz.t49, _, by kernel_rfl, rfl, rfl, rfl, by kernel_rfl⟩, ⟨_, _, _, Tryz.underlying49⟩, by kernel_rfl⟩
theorem tok50 : Wk.TOk Tryz.prog 50 ⟨.func, 1, 8, [Go.Value.nilFunc]⟩ := ⟨⟨Tryz.t50, _, by kernel_rfl, rfl, rfl, rfl, by kernel_rfl⟩, ⟨_, _, _, Tryz.underlying50⟩, by kernel_rfl⟩
theorem tok51 : Wk.TOk Tryz.prog 51 ⟨.func, 1, 8, [Go.Value.nilFunc]⟩ := ⟨⟨Tryz.t51, _, by kernel_rfl, rfl, rfl, rfl, by kernel_rfl⟩, ⟨_, _, _, Tryz.underlying51⟩, by kernel_rfl⟩
theorem tok52 : Wk.TOk Tryz.prog 52 ⟨.func, 1, 8, [Go.Value.nilFunc]⟩ := ⟨⟨Tryz.t52, _, by kernel_rfl, rfl, rfl, rfl, by kernel_rfl⟩, ⟨_, _, _, Tryz.underlying52⟩, by kernel_rfl⟩
theorem tok53 : Wk.TOk Tryz.prog 53 ⟨.func, 1, 8, [Go.Value.nilFunc]⟩ := ⟨⟨Tryz.t53, _, by kernel_rfl, rfl, rfl, rfl, by kernel_rfl⟩, ⟨_, _, _, Tryz.underlying53⟩, by kernel_rfl⟩
theorem tok54 : Wk.TOk Tryz.prog 54 ⟨.func, 1, 8, [Go.Value.nilFunc]⟩ := ⟨⟨Tryz.t54, _, by kernel_rfl, rfl, rfl, rfl, by kernel_rfl⟩, ⟨_, _, _, Tryz.underlying54⟩, by kernel_rfl⟩
theorem tok55 : Wk.TOk Tryz.prog 55 ⟨.func, 1, 8, [Go.Value.nilFunc]⟩ := ⟨⟨Tryz.t55, _, by kernel_rfl, rfl, rfl, rfl, by kernel_rfl⟩, ⟨_, _, _, Tryz.underlying55⟩, by kernel_rfl⟩
theorem tok57 : Wk.TOk Tryz.prog 57 ⟨.func, 1, 8, [Go.Value.nilFunc]⟩ := ⟨⟨Tryz.t57, _, by kernel_rfl, rfl, rfl, rfl, by kernel_rfl⟩, ⟨_, _, _, Tryz.underlying57⟩, by kernel_rfl⟩
theorem tok58 : Wk.TOk Tryz.prog 58 ⟨.func, 1, 8, [Go.Value.nilFunc]⟩ := ⟨⟨Tryz.t58, _, by kernel_rfl, rfl, rfl, rfl, by kernel_rfl⟩, ⟨_, _, _, Tryz.underlying58⟩, by kernel_rfl⟩
theorem tok59 : Wk.TOk Tryz.prog 59 ⟨.func, 1, 8, [Go.Value.nilFunc]⟩ := ⟨⟨Tryz.t59, _, by kernel_rfl, rfl, rfl, rfl, by kernel_rfl⟩, ⟨_, _, _, Tryz.underlying59⟩, by kernel_rfl⟩
theorem tok61 : Wk.TOk Tryz.prog 61 ⟨.func, 1, 8, [Go.Value.nilFunc]⟩ := ⟨⟨Tryz.t61, _, by kernel_rfl, rfl, rfl, rfl, by kernel_rfl⟩, ⟨_, _, _, Tryz.underlying61⟩, by kernel_rfl⟩
theorem tok62 : Wk.TOk Tryz.prog 62 ⟨.func, 1, 8, [Go.Value.nilFunc]⟩ := ⟨⟨Tryz.t62, _, by kernel_rfl, rfl, rfl, rfl, by kernel_rfl⟩, ⟨_, _, _, Tryz.underlying62⟩, by kernel_rfl⟩
theorem tok63 : Wk.TOk Tryz.prog 63 ⟨.func, 1, 8, [Go.Value.nilFunc]⟩ := ⟨⟨Tryz.t63, _, by kernel_rfl, rfl, rfl, rfl, by kernel_rfl⟩, ⟨_, _, _, Tryz.underlying63⟩, by kernel_rfl⟩
theorem tok64 : Wk.TOk Tryz.prog 64 ⟨.strct [(0, 1, 3), (1, 1, 9)], 2, 24, [(Go.Value.int Go.IntKind.i64 0), (Go.Value.string { data := #[] })]⟩ := ⟨⟨Tryz.t64, _, by kernel_rfl, rfl, rfl, rfl, by kernel_rfl⟩, ⟨_, Tryz.underlying64, by kernel_rfl, Tryz.stoodInHeld64, by kernel_rfl⟩, by kernel_rfl⟩
theorem tok65 : Wk.TOk Tryz.prog 65 ⟨.strct [(0, 1, 3), (1, 1, 9)], 2, 24, [(Go.Value.int Go.IntKind.i64 0), (Go.Value.string { data := #[] })]⟩ := ⟨⟨Tryz.t65, _, by kernel_rfl, rfl, rfl, rfl, by kernel_rfl⟩, ⟨_, Tryz.underlying65, by kernel_rfl, Tryz.stoodInHeld65, by kernel_rfl⟩, by kernel_rfl⟩
theorem tok66 : Wk.TOk Tryz.prog 66 ⟨.func, 1, 8, [Go.Value.nilFunc]⟩ := ⟨⟨Tryz.t66, _, by kernel_rfl, rfl, rfl, rfl, by kernel_rfl⟩, ⟨_, _, _, Tryz.underlying66⟩, by kernel_rfl⟩
theorem tok67 : Wk.TOk Tryz.prog 67 ⟨.slice 9, 1, 24, [(Go.Value.slice none 0 0)]⟩ := ⟨⟨Tryz.t67, _, by kernel_rfl, rfl, rfl, rfl, by kernel_rfl⟩, Tryz.underlying67, by kernel_rfl⟩
theorem tok69 : Wk.TOk Tryz.prog 69 ⟨.func, 1, 8, [Go.Value.nilFunc]⟩ := ⟨⟨Tryz.t69, _, by kernel_rfl, rfl, rfl, rfl, by kernel_rfl⟩, ⟨_, _, _, Tryz.underlying69⟩, by kernel_rfl⟩
theorem tok70 : Wk.TOk Tryz.prog 70 ⟨.strct [], 0, 0, []⟩ := ⟨⟨Tryz.t70, _, by kernel_rfl, rfl, rfl, rfl, by kernel_rfl⟩, ⟨_, Tryz.underlying70, by kernel_rfl, Tryz.stoodInHeld70, by kernel_rfl⟩, by kernel_rfl⟩
theorem tok71 : Wk.TOk Tryz.prog 71 ⟨.strct [], 0, 0, []⟩ := ⟨⟨Tryz.t71, _, by kernel_rfl, rfl, rfl, rfl, by kernel_rfl⟩, ⟨_, Tryz.underlying71, by kernel_rfl, Tryz.stoodInHeld71, by kernel_rfl⟩, by kernel_rfl⟩
theorem tok72 : Wk.TOk Tryz.prog 72 ⟨.iface, 1, 16, [Go.Value.nilIface]⟩ := ⟨⟨Tryz.t72, _, by kernel_rfl, rfl, rfl, rfl, by kernel_rfl⟩, ⟨_, Tryz.underlying72⟩, by kernel_rfl⟩
theorem tok73 : Wk.TOk Tryz.prog 73 ⟨.iface, 1, 16, [Go.Value.nilIface]⟩ := ⟨⟨Tryz.t73, _, by kernel_rfl, rfl, rfl, rfl, by kernel_rfl⟩, ⟨_, Tryz.underlying73⟩, by kernel_rfl⟩
theorem tok74 : Wk.TOk Tryz.prog 74 ⟨.strct [(0, 1, 73)], 1, 16, [Go.Value.nilIface]⟩ := ⟨⟨Tryz.t74, _, by kernel_rfl, rfl, rfl, rfl, by kernel_rfl⟩, ⟨_, Tryz.underlying74, by kernel_rfl, Tryz.stoodInHeld74, by kernel_rfl⟩, by kernel_rfl⟩
theorem tok75 : Wk.TOk Tryz.prog 75 ⟨.strct [(0, 1, 73)], 1, 16, [Go.Value.nilIface]⟩ := ⟨⟨Tryz.t75, _, by kernel_rfl, rfl, rfl, rfl, by kernel_rfl⟩, ⟨_, Tryz.underlying75, by kernel_rfl, Tryz.stoodInHeld75, by kernel_rfl⟩, by kernel_rfl⟩
theorem tok76 : Wk.TOk Tryz.prog 76 ⟨.strct [(0, 1, 9)], 1, 16, [(Go.Value.string { data := #[] })]⟩ := ⟨⟨Tryz.t76, _, by kernel_rfl, rfl, rfl, rfl, by kernel_rfl⟩, ⟨_, Tryz.underlying76, by kernel_rfl, Tryz.stoodInHeld76, by kernel_rfl⟩, by kernel_rfl⟩
theorem tok77 : Wk.TOk Tryz.prog 77 ⟨.strct [(0, 1, 9)], 1, 16, [(Go.Value.string { data := #[] })]⟩ := ⟨⟨Tryz.t77, _, by kernel_rfl, rfl, rfl, rfl, by kernel_rfl⟩, ⟨_, Tryz.underlying77, by kernel_rfl, Tryz.stoodInHeld77, by kernel_rfl⟩, by kernel_rfl⟩
theorem tok78 : Wk.TOk Tryz.prog 78 ⟨.func, 1, 8, [Go.Value.nilFunc]⟩ := ⟨⟨Tryz.t78, _, by kernel_rfl, rfl, rfl, rfl, by kernel_rfl⟩, ⟨_, _, _, Tryz.underlying78⟩, by kernel_rfl⟩
theorem tok79 : Wk.TOk Tryz.prog 79 ⟨.func, 1, 8, [Go.Value.nilFunc]⟩ := ⟨⟨Tryz.t79, _, by kernel_rfl, rfl, rfl, rfl, by kernel_rfl⟩, ⟨_, _, _, Tryz.underlying79⟩, by kernel_rfl⟩
theorem tok80 : Wk.TOk Tryz.prog 80 ⟨.func, 1, 8, [Go.Value.nilFunc]⟩ := ⟨⟨Tryz.t80, _, by kernel_rfl, rfl, rfl, rfl, by kernel_rfl⟩, ⟨_, _, _, Tryz.underlying80⟩, by kernel_rfl⟩
theorem tok81 : Wk.TOk Tryz.prog 81 ⟨.func, 1, 8, [Go.Value.nilFunc]⟩ := ⟨⟨Tryz.t81, _, by kernel_rfl, rfl, rfl, rfl, by kernel_rfl⟩, ⟨_, _, _, Tryz.underlying81⟩, by kernel_rfl⟩
theorem tok82 : Wk.TOk Tryz.prog 82 ⟨.func, 1, 8, [Go.Value.nilFunc]⟩ := ⟨⟨Tryz.t82, _, by kernel_rfl, rfl, rfl, rfl, by kernel_rfl⟩, ⟨_, _, _, Tryz.underlying82⟩, by kernel_rfl⟩
theorem tok83 : Wk.TOk Tryz.prog 83 ⟨.func, 1, 8, [Go.Value.nilFunc]⟩ := ⟨⟨Tryz.t83, _, by kernel_rfl, rfl, rfl, rfl, by kernel_rfl⟩, ⟨_, _, _, Tryz.underlying83⟩, by kernel_rfl⟩
theorem tok84 : Wk.TOk Tryz.prog 84 ⟨.func, 1, 8, [Go.Value.nilFunc]⟩ := ⟨⟨Tryz.t84, _, by kernel_rfl, rfl, rfl, rfl, by kernel_rfl⟩, ⟨_, _, _, Tryz.underlying84⟩, by kernel_rfl⟩
theorem tok85 : Wk.TOk Tryz.prog 85 ⟨.func, 1, 8, [Go.Value.nilFunc]⟩ := ⟨⟨Tryz.t85, _, by kernel_rfl, rfl, rfl, rfl, by kernel_rfl⟩, ⟨_, _, _, Tryz.underlying85⟩, by kernel_rfl⟩
theorem tok86 : Wk.TOk Tryz.prog 86 ⟨.func, 1, 8, [Go.Value.nilFunc]⟩ := ⟨⟨Tryz.t86, _, by kernel_rfl, rfl, rfl, rfl, by kernel_rfl⟩, ⟨_, _, _, Tryz.underlying86⟩, by kernel_rfl⟩
theorem tok87 : Wk.TOk Tryz.prog 87 ⟨.strct [], 0, 0, []⟩ := ⟨⟨Tryz.t87, _, by kernel_rfl, rfl, rfl, rfl, by kernel_rfl⟩, ⟨_, Tryz.underlying87, by kernel_rfl, Tryz.stoodInHeld87, by kernel_rfl⟩, by kernel_rfl⟩
theorem tok89 : Wk.TOk Tryz.prog 89 ⟨.func, 1, 8, [Go.Value.nilFunc]⟩ := ⟨⟨Tryz.t89, _, by kernel_rfl, rfl, rfl, rfl, by kernel_rfl⟩, ⟨_, _, _, Tryz.underlying89⟩, by kernel_rfl⟩
theorem tok90 : Wk.TOk Tryz.prog 90 ⟨.func, 1, 8, [Go.Value.nilFunc]⟩ := ⟨⟨Tryz.t90, _, by kernel_rfl, rfl, rfl, rfl, by kernel_rfl⟩, ⟨_, _, _, Tryz.underlying90⟩, by kernel_rfl⟩
theorem tok91 : Wk.TOk Tryz.prog 91 ⟨.func, 1, 8, [Go.Value.nilFunc]⟩ := ⟨⟨Tryz.t91, _, by kernel_rfl, rfl, rfl, rfl, by kernel_rfl⟩, ⟨_, _, _, Tryz.underlying91⟩, by kernel_rfl⟩
theorem tok92 : Wk.TOk Tryz.prog 92 ⟨.func, 1, 8, [Go.Value.nilFunc]⟩ := ⟨⟨Tryz.t92, _, by kernel_rfl, rfl, rfl, rfl, by kernel_rfl⟩, ⟨_, _, _, Tryz.underlying92⟩, by kernel_rfl⟩
theorem tok93 : Wk.TOk Tryz.prog 93 ⟨.func, 1, 8, [Go.Value.nilFunc]⟩ := ⟨⟨Tryz.t93, _, by kernel_rfl, rfl, rfl, rfl, by kernel_rfl⟩, ⟨_, _, _, Tryz.underlying93⟩, by kernel_rfl⟩
theorem tok94 : Wk.TOk Tryz.prog 94 ⟨.ptr 42, 1, 8, [(Go.Value.pointer none)]⟩ := ⟨⟨Tryz.t94, _, by kernel_rfl, rfl, rfl, rfl, by kernel_rfl⟩, Tryz.underlying94, by kernel_rfl⟩
theorem tok95 : Wk.TOk Tryz.prog 95 ⟨.ptr 3, 1, 8, [(Go.Value.pointer none)]⟩ := ⟨⟨Tryz.t95, _, by kernel_rfl, rfl, rfl, rfl, by kernel_rfl⟩, Tryz.underlying95, by kernel_rfl⟩
theorem tok96 : Wk.TOk Tryz.prog 96 ⟨.strct [(0, 1, 95), (1, 1, 3), (2, 1, 3)], 3, 24, [(Go.Value.pointer none), (Go.Value.int Go.IntKind.i64 0), (Go.Value.int Go.IntKind.i64 0)]⟩ := ⟨⟨Tryz.t96, _, by kernel_rfl, rfl, rfl, rfl, by kernel_rfl⟩, ⟨_, Tryz.underlying96, by kernel_rfl, Tryz.stoodInHeld96, by kernel_rfl⟩, by kernel_rfl⟩
theorem tok97 : Wk.TOk Tryz.prog 97 ⟨.strct [(0, 1, 95), (1, 1, 3), (2, 1, 3)], 3, 24, [(Go.Value.pointer none), (Go.Value.int Go.IntKind.i64 0), (Go.Value.int Go.IntKind.i64 0)]⟩ := ⟨⟨Tryz.t97, _, by kernel_rfl, rfl, rfl, rfl, by kernel_rfl⟩, ⟨_, Tryz.underlying97, by kernel_rfl, Tryz.stoodInHeld97, by kernel_rfl⟩, by kernel_rfl⟩
theorem tok99 : Wk.TOk Tryz.prog 99 ⟨.func, 1, 8, [Go.Value.nilFunc]⟩ := ⟨⟨Tryz.t99, _, by kernel_rfl, rfl, rfl, rfl, by kernel_rfl⟩, ⟨_, _, _, Tryz.underlying99⟩, by kernel_rfl⟩
theorem tok100 : Wk.TOk Tryz.prog 100 ⟨.func, 1, 8, [Go.Value.nilFunc]⟩ := ⟨⟨Tryz.t100, _, by kernel_rfl, rfl, rfl, rfl, by kernel_rfl⟩, ⟨_, _, _, Tryz.underlying100⟩, by kernel_rfl⟩
theorem tok101 : Wk.TOk Tryz.prog 101 ⟨.func, 1, 8, [Go.Value.nilFunc]⟩ := ⟨⟨Tryz.t101, _, by kernel_rfl, rfl, rfl, rfl, by kernel_rfl⟩, ⟨_, _, _, Tryz.underlying101⟩, by kernel_rfl⟩
theorem tok102 : Wk.TOk Tryz.prog 102 ⟨.func, 1, 8, [Go.Value.nilFunc]⟩ := ⟨⟨Tryz.t102, _, by kernel_rfl, rfl, rfl, rfl, by kernel_rfl⟩, ⟨_, _, _, Tryz.underlying102⟩, by kernel_rfl⟩
theorem tok103 : Wk.TOk Tryz.prog 103 ⟨.func, 1, 8, [Go.Value.nilFunc]⟩ := ⟨⟨Tryz.t103, _, by kernel_rfl, rfl, rfl, rfl, by kernel_rfl⟩, ⟨_, _, _, Tryz.underlying103⟩, by kernel_rfl⟩
theorem tok104 : Wk.TOk Tryz.prog 104 ⟨.func, 1, 8, [Go.Value.nilFunc]⟩ := ⟨⟨Tryz.t104, _, by kernel_rfl, rfl, rfl, rfl, by kernel_rfl⟩, ⟨_, _, _, Tryz.underlying104⟩, by kernel_rfl⟩
theorem tok105 : Wk.TOk Tryz.prog 105 ⟨.func, 1, 8, [Go.Value.nilFunc]⟩ := ⟨⟨Tryz.t105, _, by kernel_rfl, rfl, rfl, rfl, by kernel_rfl⟩, ⟨_, _, _, Tryz.underlying105⟩, by kernel_rfl⟩
theorem tok106 : Wk.TOk Tryz.prog 106 ⟨.func, 1, 8, [Go.Value.nilFunc]⟩ := ⟨⟨Tryz.t106, _, by kernel_rfl, rfl, rfl, rfl, by kernel_rfl⟩, ⟨_, _, _, Tryz.underlying106⟩, by kernel_rfl⟩
theorem tok107 : Wk.TOk Tryz.prog 107 ⟨.func, 1, 8, [Go.Value.nilFunc]⟩ := ⟨⟨Tryz.t107, _, by kernel_rfl, rfl, rfl, rfl, by kernel_rfl⟩, ⟨_, _, _, Tryz.underlying107⟩, by kernel_rfl⟩
theorem tok108 : Wk.TOk Tryz.prog 108 ⟨.func, 1, 8, [Go.Value.nilFunc]⟩ := ⟨⟨Tryz.t108, _, by kernel_rfl, rfl, rfl, rfl, by kernel_rfl⟩, ⟨_, _, _, Tryz.underlying108⟩, by kernel_rfl⟩
theorem tok109 : Wk.TOk Tryz.prog 109 ⟨.func, 1, 8, [Go.Value.nilFunc]⟩ := ⟨⟨Tryz.t109, _, by kernel_rfl, rfl, rfl, rfl, by kernel_rfl⟩, ⟨_, _, _, Tryz.underlying109⟩, by kernel_rfl⟩
theorem tok110 : Wk.TOk Tryz.prog 110 ⟨.func, 1, 8, [Go.Value.nilFunc]⟩ := ⟨⟨Tryz.t110, _, by kernel_rfl, rfl, rfl, rfl, by kernel_rfl⟩, ⟨_, _, _, Tryz.underlying110⟩, by kernel_rfl⟩
theorem tok111 : Wk.TOk Tryz.prog 111 ⟨.func, 1, 8, [Go.Value.nilFunc]⟩ := ⟨⟨Tryz.t111, _, by kernel_rfl, rfl, rfl, rfl, by kernel_rfl⟩, ⟨_, _, _, Tryz.underlying111⟩, by kernel_rfl⟩
theorem tok112 : Wk.TOk Tryz.prog 112 ⟨.func, 1, 8, [Go.Value.nilFunc]⟩ := ⟨⟨Tryz.t112, _, by kernel_rfl, rfl, rfl, rfl, by kernel_rfl⟩, ⟨_, _, _, Tryz.underlying112⟩, by kernel_rfl⟩
theorem tok113 : Wk.TOk Tryz.prog 113 ⟨.func, 1, 8, [Go.Value.nilFunc]⟩ := ⟨⟨Tryz.t113, _, by kernel_rfl, rfl, rfl, rfl, by kernel_rfl⟩, ⟨_, _, _, Tryz.underlying113⟩, by kernel_rfl⟩
theorem tok115 : Wk.TOk Tryz.prog 115 ⟨.func, 1, 8, [Go.Value.nilFunc]⟩ := ⟨⟨Tryz.t115, _, by kernel_rfl, rfl, rfl, rfl, by kernel_rfl⟩, ⟨_, _, _, Tryz.underlying115⟩, by kernel_rfl⟩
theorem tok117 : Wk.TOk Tryz.prog 117 ⟨.func, 1, 8, [Go.Value.nilFunc]⟩ := ⟨⟨Tryz.t117, _, by kernel_rfl, rfl, rfl, rfl, by kernel_rfl⟩, ⟨_, _, _, Tryz.underlying117⟩, by kernel_rfl⟩
theorem tok118 : Wk.TOk Tryz.prog 118 ⟨.func, 1, 8, [Go.Value.nilFunc]⟩ := ⟨⟨Tryz.t118, _, by kernel_rfl, rfl, rfl, rfl, by kernel_rfl⟩, ⟨_, _, _, Tryz.underlying118⟩, by kernel_rfl⟩
theorem tok119 : Wk.TOk Tryz.prog 119 ⟨.func, 1, 8, [Go.Value.nilFunc]⟩ := ⟨⟨Tryz.t119, _, by kernel_rfl, rfl, rfl, rfl, by kernel_rfl⟩, ⟨_, _, _, Tryz.underlying119⟩, by kernel_rfl⟩
theorem tok120 : Wk.TOk Tryz.prog 120 ⟨.func, 1, 8, [Go.Value.nilFunc]⟩ := ⟨⟨Tryz.t120, _, by kernel_rfl, rfl, rfl, rfl, by kernel_rfl⟩, ⟨_, _, _, Tryz.underlying120⟩, by kernel_rfl⟩
theorem tok121 : Wk.TOk Tryz.prog 121 ⟨.func, 1, 8, [Go.Value.nilFunc]⟩ := ⟨⟨Tryz.t121, _, by kernel_rfl, rfl, rfl, rfl, by kernel_rfl⟩, ⟨_, _, _, Tryz.underlying121⟩, by kernel_rfl⟩
theorem tok122 : Wk.TOk Tryz.prog 122 ⟨.func, 1, 8, [Go.Value.nilFunc]⟩ := ⟨⟨Tryz.t122, _, by kernel_rfl, rfl, rfl, rfl, by kernel_rfl⟩, ⟨_, _, _, Tryz.underlying122⟩, by kernel_rfl⟩
theorem tok123 : Wk.TOk Tryz.prog 123 ⟨.func, 1, 8, [Go.Value.nilFunc]⟩ := ⟨⟨Tryz.t123, _, by kernel_rfl, rfl, rfl, rfl, by kernel_rfl⟩, ⟨_, _, _, Tryz.underlying123⟩, by kernel_rfl⟩
theorem tok124 : Wk.TOk Tryz.prog 124 ⟨.func, 1, 8, [Go.Value.nilFunc]⟩ := ⟨⟨Tryz.t124, _, by kernel_rfl, rfl, rfl, rfl, by kernel_rfl⟩, ⟨_, _, _, Tryz.underlying124⟩, by kernel_rfl⟩
theorem tok125 : Wk.TOk Tryz.prog 125 ⟨.func, 1, 8, [Go.Value.nilFunc]⟩ := ⟨⟨Tryz.t125, _, by kernel_rfl, rfl, rfl, rfl, by kernel_rfl⟩, ⟨_, _, _, Tryz.underlying125⟩, by kernel_rfl⟩
theorem tok126 : Wk.TOk Tryz.prog 126 ⟨.func, 1, 8, [Go.Value.nilFunc]⟩ := ⟨⟨Tryz.t126, _, by kernel_rfl, rfl, rfl, rfl, by kernel_rfl⟩, ⟨_, _, _, Tryz.underlying126⟩, by kernel_rfl⟩
theorem tok127 : Wk.TOk Tryz.prog 127 ⟨.int Go.IntKind.u64, 1, 8, [(Go.Value.int Go.IntKind.u64 0)]⟩ := ⟨⟨Tryz.t127, _, by kernel_rfl, rfl, rfl, rfl, by kernel_rfl⟩, Tryz.underlying127, by kernel_rfl⟩
theorem tok128 : Wk.TOk Tryz.prog 128 ⟨.func, 1, 8, [Go.Value.nilFunc]⟩ := ⟨⟨Tryz.t128, _, by kernel_rfl, rfl, rfl, rfl, by kernel_rfl⟩, ⟨_, _, _, Tryz.underlying128⟩, by kernel_rfl⟩
theorem tok129 : Wk.TOk Tryz.prog 129 ⟨.func, 1, 8, [Go.Value.nilFunc]⟩ := ⟨⟨Tryz.t129, _, by kernel_rfl, rfl, rfl, rfl, by kernel_rfl⟩, ⟨_, _, _, Tryz.underlying129⟩, by kernel_rfl⟩
theorem tok130 : Wk.TOk Tryz.prog 130 ⟨.slice 3, 1, 24, [(Go.Value.slice none 0 0)]⟩ := ⟨⟨Tryz.t130, _, by kernel_rfl, rfl, rfl, rfl, by kernel_rfl⟩, Tryz.underlying130, by kernel_rfl⟩
theorem tok131 : Wk.TOk Tryz.prog 131 ⟨.func, 1, 8, [Go.Value.nilFunc]⟩ := ⟨⟨Tryz.t131, _, by kernel_rfl, rfl, rfl, rfl, by kernel_rfl⟩, ⟨_, _, _, Tryz.underlying131⟩, by kernel_rfl⟩
theorem tok132 : Wk.TOk Tryz.prog 132 ⟨.func, 1, 8, [Go.Value.nilFunc]⟩ := ⟨⟨Tryz.t132, _, by kernel_rfl, rfl, rfl, rfl, by kernel_rfl⟩, ⟨_, _, _, Tryz.underlying132⟩, by kernel_rfl⟩
theorem tok133 : Wk.TOk Tryz.prog 133 ⟨.func, 1, 8, [Go.Value.nilFunc]⟩ := ⟨⟨Tryz.t133, _, by kernel_rfl, rfl, rfl, rfl, by kernel_rfl⟩, ⟨_, _, _, Tryz.underlying133⟩, by kernel_rfl⟩
theorem tok134 : Wk.TOk Tryz.prog 134 ⟨.slice 97, 1, 24, [(Go.Value.slice none 0 0)]⟩ := ⟨⟨Tryz.t134, _, by kernel_rfl, rfl, rfl, rfl, by kernel_rfl⟩, Tryz.underlying134, by kernel_rfl⟩
theorem tok136 : Wk.TOk Tryz.prog 136 ⟨.func, 1, 8, [Go.Value.nilFunc]⟩ := ⟨⟨Tryz.t136, _, by kernel_rfl, rfl, rfl, rfl, by kernel_rfl⟩, ⟨_, _, _, Tryz.underlying136⟩, by kernel_rfl⟩
theorem tok137 : Wk.TOk Tryz.prog 137 ⟨.func, 1, 8, [Go.Value.nilFunc]⟩ := ⟨⟨Tryz.t137, _, by kernel_rfl, rfl, rfl, rfl, by kernel_rfl⟩, ⟨_, _, _, Tryz.underlying137⟩, by kernel_rfl⟩
theorem tok139 : Wk.TOk Tryz.prog 139 ⟨.func, 1, 8, [Go.Value.nilFunc]⟩ := ⟨⟨Tryz.t139, _, by kernel_rfl, rfl, rfl, rfl, by kernel_rfl⟩, ⟨_, _, _, Tryz.underlying139⟩, by kernel_rfl⟩
theorem tok140 : Wk.TOk Tryz.prog 140 ⟨.func, 1, 8, [Go.Value.nilFunc]⟩ := ⟨⟨Tryz.t140, _, by kernel_rfl, rfl, rfl, rfl, by kernel_rfl⟩, ⟨_, _, _, Tryz.underlying140⟩, by kernel_rfl⟩
theorem tok141 : Wk.TOk Tryz.prog 141 ⟨.func, 1, 8, [Go.Value.nilFunc]⟩ := ⟨⟨Tryz.t141, _, by kernel_rfl, rfl, rfl, rfl, by kernel_rfl⟩, ⟨_, _, _, Tryz.underlying141⟩, by kernel_rfl⟩
theorem tok142 : Wk.TOk Tryz.prog 142 ⟨.func, 1, 8, [Go.Value.nilFunc]⟩ := ⟨⟨Tryz.t142, _, by kernel_rfl, rfl, rfl, rfl, by kernel_rfl⟩, ⟨_, _, _, Tryz.underlying142⟩, by kernel_rfl⟩
theorem tok143 : Wk.TOk Tryz.prog 143 ⟨.func, 1, 8, [Go.Value.nilFunc]⟩ := ⟨⟨Tryz.t143, _, by kernel_rfl, rfl, rfl, rfl, by kernel_rfl⟩, ⟨_, _, _, Tryz.underlying143⟩, by kernel_rfl⟩
theorem tok144 : Wk.TOk Tryz.prog 144 ⟨.func, 1, 8, [Go.Value.nilFunc]⟩ := ⟨⟨Tryz.t144, _, by kernel_rfl, rfl, rfl, rfl, by kernel_rfl⟩, ⟨_, _, _, Tryz.underlying144⟩, by kernel_rfl⟩
theorem tok145 : Wk.TOk Tryz.prog 145 ⟨.func, 1, 8, [Go.Value.nilFunc]⟩ := ⟨⟨Tryz.t145, _, by kernel_rfl, rfl, rfl, rfl, by kernel_rfl⟩, ⟨_, _, _, Tryz.underlying145⟩, by kernel_rfl⟩
theorem tok146 : Wk.TOk Tryz.prog 146 ⟨.func, 1, 8, [Go.Value.nilFunc]⟩ := ⟨⟨Tryz.t146, _, by kernel_rfl, rfl, rfl, rfl, by kernel_rfl⟩, ⟨_, _, _, Tryz.underlying146⟩, by kernel_rfl⟩
theorem tok148 : Wk.TOk Tryz.prog 148 ⟨.func, 1, 8, [Go.Value.nilFunc]⟩ := ⟨⟨Tryz.t148, _, by kernel_rfl, rfl, rfl, rfl, by kernel_rfl⟩, ⟨_, _, _, Tryz.underlying148⟩, by kernel_rfl⟩
theorem tok149 : Wk.TOk Tryz.prog 149 ⟨.arr 3 9, 3, 48, [(Go.Value.string { data := #[] }), (Go.Value.string { data := #[] }), (Go.Value.string { data := #[] })]⟩ := ⟨⟨Tryz.t149, _, by kernel_rfl, rfl, rfl, rfl, by kernel_rfl⟩, Tryz.underlying149, by kernel_rfl⟩
theorem tok150 : Wk.TOk Tryz.prog 150 ⟨.slice 5, 1, 24, [(Go.Value.slice none 0 0)]⟩ := ⟨⟨Tryz.t150, _, by kernel_rfl, rfl, rfl, rfl, by kernel_rfl⟩, Tryz.underlying150, by kernel_rfl⟩
theorem tok151 : Wk.TOk Tryz.prog 151 ⟨.func, 1, 8, [Go.Value.nilFunc]⟩ := ⟨⟨Tryz.t151, _, by kernel_rfl, rfl, rfl, rfl, by kernel_rfl⟩, ⟨_, _, _, Tryz.underlying151⟩, by kernel_rfl⟩
theorem tok152 : Wk.TOk Tryz.prog 152 ⟨.func, 1, 8, [Go.Value.nilFunc]⟩ := ⟨⟨Tryz.t152, _, by kernel_rfl, rfl, rfl, rfl, by kernel_rfl⟩, ⟨_, _, _, Tryz.underlying152⟩, by kernel_rfl⟩
theorem tok153 : Wk.TOk Tryz.prog 153 ⟨.ptr 155, 1, 8, [(Go.Value.pointer none)]⟩ := ⟨⟨Tryz.t153, _, by kernel_rfl, rfl, rfl, rfl, by kernel_rfl⟩, Tryz.underlying153, by kernel_rfl⟩
theorem tok154 : Wk.TOk Tryz.prog 154 ⟨.strct [(0, 1, 153), (1, 1, 150)], 2, 32, [(Go.Value.pointer none), (Go.Value.slice none 0 0)]⟩ := ⟨⟨Tryz.t154, _, by kernel_rfl, rfl, rfl, rfl, by kernel_rfl⟩, ⟨_, Tryz.underlying154, by kernel_rfl, Tryz.stoodInHeld154, by kernel_rfl⟩, by kernel_rfl⟩
theorem tok155 : Wk.TOk Tryz.prog 155 ⟨.strct [(0, 1, 153), (1, 1, 150)], 2, 32, [(Go.Value.pointer none), (Go.Value.slice none 0 0)]⟩ := ⟨⟨Tryz.t155, _, by kernel_rfl, rfl, rfl, rfl, by kernel_rfl⟩, ⟨_, Tryz.underlying155, by kernel_rfl, Tryz.stoodInHeld155, by kernel_rfl⟩, by kernel_rfl⟩
theorem tok156 : Wk.TOk Tryz.prog 156 ⟨.iface, 1, 16, [Go.Value.nilIface]⟩ := ⟨⟨Tryz.t156, _, by kernel_rfl, rfl, rfl, rfl, by kernel_rfl⟩, ⟨_, Tryz.underlying156⟩, by kernel_rfl⟩
theorem tok157 : Wk.TOk Tryz.prog 157 ⟨.iface, 1, 16, [Go.Value.nilIface]⟩ := ⟨⟨Tryz.t157, _, by kernel_rfl, rfl, rfl, rfl, by kernel_rfl⟩, ⟨_, Tryz.underlying157⟩, by kernel_rfl⟩
theorem tok159 : Wk.TOk Tryz.prog 159 ⟨.func, 1, 8, [Go.Value.nilFunc]⟩ := ⟨⟨Tryz.t159, _, by kernel_rfl, rfl, rfl, rfl, by kernel_rfl⟩, ⟨_, _, _, Tryz.underlying159⟩, by kernel_rfl⟩
theorem tok160 : Wk.TOk Tryz.prog 160 ⟨.func, 1, 8, [Go.Value.nilFunc]⟩ := ⟨⟨Tryz.t160, _, by kernel_rfl, rfl, rfl, rfl, by kernel_rfl⟩, ⟨_, _, _, Tryz.underlying160⟩, by kernel_rfl⟩
theorem tok161 : Wk.TOk Tryz.prog 161 ⟨.func, 1, 8, [Go.Value.nilFunc]⟩ := ⟨⟨Tryz.t161, _, by kernel_rfl, rfl, rfl, rfl, by kernel_rfl⟩, ⟨_, _, _, Tryz.underlying161⟩, by kernel_rfl⟩
theorem tok162 : Wk.TOk Tryz.prog 162 ⟨.arr 9 5, 9, 9, [(Go.Value.int Go.IntKind.u8 0), (Go.Value.int Go.IntKind.u8 0), (Go.Value.int Go.IntKind.u8 0), (Go.Value.int Go.IntKind.u8 0), (Go.Value.int Go.IntKind.u8 0), (Go.Value.int Go.IntKind.u8 0), (Go.Value.int Go.IntKind.u8 0), (Go.Value.int Go.IntKind.u8 0), (Go.Value.int Go.IntKind.u8 0)]⟩ := ⟨⟨Tryz.t162, _, by kernel_rfl, rfl, rfl, rfl, by kernel_rfl⟩, Tryz.underlying162, by kernel_rfl⟩
theorem tok163 : Wk.TOk Tryz.prog 163 ⟨.int Go.IntKind.u64, 1, 8, [(Go.Value.int Go.IntKind.u64 0)]⟩ := ⟨⟨Tryz.t163, _, by kernel_rfl, rfl, rfl, rfl, by kernel_rfl⟩, Tryz.underlying163, by kernel_rfl⟩
theorem tok165 : Wk.TOk Tryz.prog 165 ⟨.func, 1, 8, [Go.Value.nilFunc]⟩ := ⟨⟨Tryz.t165, _, by kernel_rfl, rfl, rfl, rfl, by kernel_rfl⟩, ⟨_, _, _, Tryz.underlying165⟩, by kernel_rfl⟩
theorem tok167 : Wk.TOk Tryz.prog 167 ⟨.func, 1, 8, [Go.Value.nilFunc]⟩ := ⟨⟨Tryz.t167, _, by kernel_rfl, rfl, rfl, rfl, by kernel_rfl⟩, ⟨_, _, _, Tryz.underlying167⟩, by kernel_rfl⟩
theorem tok168 : Wk.TOk Tryz.prog 168 ⟨.func, 1, 8, [Go.Value.nilFunc]⟩ := ⟨⟨Tryz.t168, _, by kernel_rfl, rfl, rfl, rfl, by kernel_rfl⟩, ⟨_, _, _, Tryz.underlying168⟩, by kernel_rfl⟩
theorem tok169 : Wk.TOk Tryz.prog 169 ⟨.func, 1, 8, [Go.Value.nilFunc]⟩ := ⟨⟨Tryz.t169, _, by kernel_rfl, rfl, rfl, rfl, by kernel_rfl⟩, ⟨_, _, _, Tryz.underlying169⟩, by kernel_rfl⟩
theorem tok170 : Wk.TOk Tryz.prog 170 ⟨.func, 1, 8, [Go.Value.nilFunc]⟩ := ⟨⟨Tryz.t170, _, by kernel_rfl, rfl, rfl, rfl, by kernel_rfl⟩, ⟨_, _, _, Tryz.underlying170⟩, by kernel_rfl⟩
theorem tok171 : Wk.TOk Tryz.prog 171 ⟨.strct [], 0, 0, []⟩ := ⟨⟨Tryz.t171, _, by kernel_rfl, rfl, rfl, rfl, by kernel_rfl⟩, ⟨_, Tryz.underlying171, by kernel_rfl, Tryz.stoodInHeld171, by kernel_rfl⟩, by kernel_rfl⟩
theorem tok173 : Wk.TOk Tryz.prog 173 ⟨.func, 1, 8, [Go.Value.nilFunc]⟩ := ⟨⟨Tryz.t173, _, by kernel_rfl, rfl, rfl, rfl, by kernel_rfl⟩, ⟨_, _, _, Tryz.underlying173⟩, by kernel_rfl⟩
theorem tok174 : Wk.TOk Tryz.prog 174 ⟨.strct [(0, 1, 30)], 1, 8, [(Go.Value.int Go.IntKind.i64 0)]⟩ := ⟨⟨Tryz.t174, _, by kernel_rfl, rfl, rfl, rfl, by kernel_rfl⟩, ⟨_, Tryz.underlying174, by kernel_rfl, Tryz.stoodInHeld174, by kernel_rfl⟩, by kernel_rfl⟩
theorem tok175 : Wk.TOk Tryz.prog 175 ⟨.strct [(0, 1, 30)], 1, 8, [(Go.Value.int Go.IntKind.i64 0)]⟩ := ⟨⟨Tryz.t175, _, by kernel_rfl, rfl, rfl, rfl, by kernel_rfl⟩, ⟨_, Tryz.underlying175, by kernel_rfl, Tryz.stoodInHeld175, by kernel_rfl⟩, by kernel_rfl⟩
theorem tok176 : Wk.TOk Tryz.prog 176 ⟨.int Go.IntKind.u32, 1, 4, [(Go.Value.int Go.IntKind.u32 0)]⟩ := ⟨⟨Tryz.t176, _, by kernel_rfl, rfl, rfl, rfl, by kernel_rfl⟩, Tryz.underlying176, by kernel_rfl⟩
theorem tok177 : Wk.TOk Tryz.prog 177 ⟨.arr 8 176, 8, 32, [(Go.Value.int Go.IntKind.u32 0), (Go.Value.int Go.IntKind.u32 0), (Go.Value.int Go.IntKind.u32 0), (Go.Value.int Go.IntKind.u32 0), (Go.Value.int Go.IntKind.u32 0), (Go.Value.int Go.IntKind.u32 0), (Go.Value.int Go.IntKind.u32 0), (Go.Value.int Go.IntKind.u32 0)]⟩ := ⟨⟨Tryz.t177, _, by kernel_rfl, rfl, rfl, rfl, by kernel_rfl⟩, Tryz.underlying177, by kernel_rfl⟩
theorem tok178 : Wk.TOk Tryz.prog 178 ⟨.func, 1, 8, [Go.Value.nilFunc]⟩ := ⟨⟨Tryz.t178, _, by kernel_rfl, rfl, rfl, rfl, by kernel_rfl⟩, ⟨_, _, _, Tryz.underlying178⟩, by kernel_rfl⟩
theorem tok179 : Wk.TOk Tryz.prog 179 ⟨.ptr 5, 1, 8, [(Go.Value.pointer none)]⟩ := ⟨⟨Tryz.t179, _, by kernel_rfl, rfl, rfl, rfl, by kernel_rfl⟩, Tryz.underlying179, by kernel_rfl⟩
theorem tok181 : Wk.TOk Tryz.prog 181 ⟨.func, 1, 8, [Go.Value.nilFunc]⟩ := ⟨⟨Tryz.t181, _, by kernel_rfl, rfl, rfl, rfl, by kernel_rfl⟩, ⟨_, _, _, Tryz.underlying181⟩, by kernel_rfl⟩
theorem tok182 : Wk.TOk Tryz.prog 182 ⟨.arr 64 176, 64, 256, [(Go.Value.int Go.IntKind.u32 0), (Go.Value.int Go.IntKind.u32 0), (Go.Value.int Go.IntKind.u32 0), (Go.Value.int Go.IntKind.u32 0), (Go.Value.int Go.IntKind.u32 0), (Go.Value.int Go.IntKind.u32 0), (Go.Value.int Go.IntKind.u32 0), (Go.Value.int Go.IntKind.u32 0), (Go.Value.int Go.IntKind.u32 0), (Go.Value.int Go.IntKind.u32 0), (Go.Value.int Go.IntKind.u32 0), (Go.Value.int Go.IntKind.u32 0), (Go.Value.int Go.IntKind.u32 0), (Go.Value.int Go.IntKind.u32 0), (Go.Value.int Go.IntKind.u32 0), (Go.Value.int Go.IntKind.u32 0), (Go.Value.int Go.IntKind.u32 0), (Go.Value.int Go.IntKind.u32 0), (Go.Value.int Go.IntKind.u32 0), (Go.Value.int Go.IntKind.u32 0), (Go.Value.int Go.IntKind.u32 0), (Go.Value.int Go.IntKind.u32 0), (Go.Value.int Go.IntKind.u32 0), (Go.Value.int Go.IntKind.u32 0), (Go.Value.int Go.IntKind.u32 0), (Go.Value.int Go.IntKind.u32 0), (Go.Value.int Go.IntKind.u32 0), (Go.Value.int Go.IntKind.u32 0), (Go.Value.int Go.IntKind.u32 0), (Go.Value.int Go.IntKind.u32 0), (Go.Value.int Go.IntKind.u32 0), (Go.Value.int Go.IntKind.u32 0), (Go.Value.int Go.IntKind.u32 0), (Go.Value.int Go.IntKind.u32 0), (Go.Value.int Go.IntKind.u32 0), (Go.Value.int Go.IntKind.u32 0), (Go.Value.int Go.IntKind.u32 0), (Go.Value.int Go.IntKind.u32 0), (Go.Value.int Go.IntKind.u32 0), (Go.Value.int Go.IntKind.u32 0), (Go.Value.int Go.IntKind.u32 0), (Go.Value.int Go.IntKind.u32 0), (Go.Value.int Go.IntKind.u32 0), (Go.Value.int Go.IntKind.u32 0), (Go.Value.int Go.IntKind.u32 0), (Go.Value.int Go.IntKind.u32 0), (Go.Value.int Go.IntKind.u32 0), (Go.Value.int Go.IntKind.u32 0), (Go.Value.int Go.IntKind.u32 0), (Go.Value.int Go.IntKind.u32 0), (Go.Value.int Go.IntKind.u32 0), (Go.Value.int Go.IntKind.u32 0), (Go.Value.int Go.IntKind.u32 0), (Go.Value.int Go.IntKind.u32 0), (Go.Value.int Go.IntKind.u32 0), (Go.Value.int Go.IntKind.u32 0), (Go.Value.int Go.IntKind.u32 0), (Go.Value.int Go.IntKind.u32 0), (Go.Value.int Go.IntKind.u32 0), (Go.Value.int Go.IntKind.u32 0), (Go.Value.int Go.IntKind.u32 0), (Go.Value.int Go.IntKind.u32 0), (Go.Value.int Go.IntKind.u32 0), (Go.Value.int Go.IntKind.u32 0)]⟩ := ⟨⟨Tryz.t182, _, by kernel_rfl, rfl, rfl, rfl, by kernel_rfl⟩, Tryz.underlying182, by kernel_rfl⟩
theorem tok183 : Wk.TOk Tryz.prog 183 ⟨.func, 1, 8, [Go.Value.nilFunc]⟩ := ⟨⟨Tryz.t183, _, by kernel_rfl, rfl, rfl, rfl, by kernel_rfl⟩, ⟨_, _, _, Tryz.underlying183⟩, by kernel_rfl⟩
theorem tok184 : Wk.TOk Tryz.prog 184 ⟨.func, 1, 8, [Go.Value.nilFunc]⟩ := ⟨⟨Tryz.t184, _, by kernel_rfl, rfl, rfl, rfl, by kernel_rfl⟩, ⟨_, _, _, Tryz.underlying184⟩, by kernel_rfl⟩
theorem tok185 : Wk.TOk Tryz.prog 185 ⟨.func, 1, 8, [Go.Value.nilFunc]⟩ := ⟨⟨Tryz.t185, _, by kernel_rfl, rfl, rfl, rfl, by kernel_rfl⟩, ⟨_, _, _, Tryz.underlying185⟩, by kernel_rfl⟩
theorem tok187 : Wk.TOk Tryz.prog 187 ⟨.func, 1, 8, [Go.Value.nilFunc]⟩ := ⟨⟨Tryz.t187, _, by kernel_rfl, rfl, rfl, rfl, by kernel_rfl⟩, ⟨_, _, _, Tryz.underlying187⟩, by kernel_rfl⟩
theorem tok188 : Wk.TOk Tryz.prog 188 ⟨.func, 1, 8, [Go.Value.nilFunc]⟩ := ⟨⟨Tryz.t188, _, by kernel_rfl, rfl, rfl, rfl, by kernel_rfl⟩, ⟨_, _, _, Tryz.underlying188⟩, by kernel_rfl⟩
theorem tok189 : Wk.TOk Tryz.prog 189 ⟨.func, 1, 8, [Go.Value.nilFunc]⟩ := ⟨⟨Tryz.t189, _, by kernel_rfl, rfl, rfl, rfl, by kernel_rfl⟩, ⟨_, _, _, Tryz.underlying189⟩, by kernel_rfl⟩
theorem tok190 : Wk.TOk Tryz.prog 190 ⟨.func, 1, 8, [Go.Value.nilFunc]⟩ := ⟨⟨Tryz.t190, _, by kernel_rfl, rfl, rfl, rfl, by kernel_rfl⟩, ⟨_, _, _, Tryz.underlying190⟩, by kernel_rfl⟩
theorem tok191 : Wk.TOk Tryz.prog 191 ⟨.func, 1, 8, [Go.Value.nilFunc]⟩ := ⟨⟨Tryz.t191, _, by kernel_rfl, rfl, rfl, rfl, by kernel_rfl⟩, ⟨_, _, _, Tryz.underlying191⟩, by kernel_rfl⟩
theorem tok194 : Wk.TOk Tryz.prog 194 ⟨.arr 0 16, 0, 0, []⟩ := ⟨⟨Tryz.t194, _, by kernel_rfl, rfl, rfl, rfl, by kernel_rfl⟩, Tryz.underlying194, by kernel_rfl⟩
theorem tok197 : Wk.TOk Tryz.prog 197 ⟨.int Go.IntKind.u8, 1, 1, [(Go.Value.int Go.IntKind.u8 0)]⟩ := ⟨⟨Tryz.t197, _, by kernel_rfl, rfl, rfl, rfl, by kernel_rfl⟩, Tryz.underlying197, by kernel_rfl⟩
theorem tok198 : Wk.TOk Tryz.prog 198 ⟨.int Go.IntKind.u8, 1, 1, [(Go.Value.int Go.IntKind.u8 0)]⟩ := ⟨⟨Tryz.t198, _, by kernel_rfl, rfl, rfl, rfl, by kernel_rfl⟩, Tryz.underlying198, by kernel_rfl⟩
theorem tok199 : Wk.TOk Tryz.prog 199 ⟨.func, 1, 8, [Go.Value.nilFunc]⟩ := ⟨⟨Tryz.t199, _, by kernel_rfl, rfl, rfl, rfl, by kernel_rfl⟩, ⟨_, _, _, Tryz.underlying199⟩, by kernel_rfl⟩
theorem tok200 : Wk.TOk Tryz.prog 200 ⟨.int Go.IntKind.i32, 1, 4, [(Go.Value.int Go.IntKind.i32 0)]⟩ := ⟨⟨Tryz.t200, _, by kernel_rfl, rfl, rfl, rfl, by kernel_rfl⟩, Tryz.underlying200, by kernel_rfl⟩
theorem tok201 : Wk.TOk Tryz.prog 201 ⟨.int Go.IntKind.i32, 1, 4, [(Go.Value.int Go.IntKind.i32 0)]⟩ := ⟨⟨Tryz.t201, _, by kernel_rfl, rfl, rfl, rfl, by kernel_rfl⟩, Tryz.underlying201, by kernel_rfl⟩
theorem tok204 : Wk.TOk Tryz.prog 204 ⟨.func, 1, 8, [Go.Value.nilFunc]⟩ := ⟨⟨Tryz.t204, _, by kernel_rfl, rfl, rfl, rfl, by kernel_rfl⟩, ⟨_, _, _, Tryz.underlying204⟩, by kernel_rfl⟩
theorem tok205 : Wk.TOk Tryz.prog 205 ⟨.func, 1, 8, [Go.Value.nilFunc]⟩ := ⟨⟨Tryz.t205, _, by kernel_rfl, rfl, rfl, rfl, by kernel_rfl⟩, ⟨_, _, _, Tryz.underlying205⟩, by kernel_rfl⟩
theorem tok206 : Wk.TOk Tryz.prog 206 ⟨.ptr 215, 1, 8, [(Go.Value.pointer none)]⟩ := ⟨⟨Tryz.t206, _, by kernel_rfl, rfl, rfl, rfl, by kernel_rfl⟩, Tryz.underlying206, by kernel_rfl⟩
theorem tok207 : Wk.TOk Tryz.prog 207 ⟨.func, 1, 8, [Go.Value.nilFunc]⟩ := ⟨⟨Tryz.t207, _, by kernel_rfl, rfl, rfl, rfl, by kernel_rfl⟩, ⟨_, _, _, Tryz.underlying207⟩, by kernel_rfl⟩
theorem tok208 : Wk.TOk Tryz.prog 208 ⟨.func, 1, 8, [Go.Value.nilFunc]⟩ := ⟨⟨Tryz.t208, _, by kernel_rfl, rfl, rfl, rfl, by kernel_rfl⟩, ⟨_, _, _, Tryz.underlying208⟩, by kernel_rfl⟩
theorem tok209 : Wk.TOk Tryz.prog 209 ⟨.func, 1, 8, [Go.Value.nilFunc]⟩ := ⟨⟨Tryz.t209, _, by kernel_rfl, rfl, rfl, rfl, by kernel_rfl⟩, ⟨_, _, _, Tryz.underlying209⟩, by kernel_rfl⟩
theorem tok210 : Wk.TOk Tryz.prog 210 ⟨.ptr 220, 1, 8, [(Go.Value.pointer none)]⟩ := ⟨⟨Tryz.t210, _, by kernel_rfl, rfl, rfl, rfl, by kernel_rfl⟩, Tryz.underlying210, by kernel_rfl⟩
theorem tok211 : Wk.TOk Tryz.prog 211 ⟨.strct [(0, 1, 210)], 1, 8, [(Go.Value.pointer none)]⟩ := ⟨⟨Tryz.t211, _, by kernel_rfl, rfl, rfl, rfl, by kernel_rfl⟩, ⟨_, Tryz.underlying211, by kernel_rfl, Tryz.stoodInHeld211, by kernel_rfl⟩, by kernel_rfl⟩
theorem tok212 : Wk.TOk Tryz.prog 212 ⟨.strct [(0, 1, 210)], 1, 8, [(Go.Value.pointer none)]⟩ := ⟨⟨Tryz.t212, _, by kernel_rfl, rfl, rfl, rfl, by kernel_rfl⟩, ⟨_, Tryz.underlying212, by kernel_rfl, Tryz.stoodInHeld212, by kernel_rfl⟩, by kernel_rfl⟩
theorem tok213 : Wk.TOk Tryz.prog 213 ⟨.func, 1, 8, [Go.Value.nilFunc]⟩ := ⟨⟨Tryz.t213, _, by kernel_rfl, rfl, rfl, rfl, by kernel_rfl⟩, ⟨_, _, _, Tryz.underlying213⟩, by kernel_rfl⟩
theorem tok214 : Wk.TOk Tryz.prog 214 ⟨.strct [(0, 1, 212), (1, 1, 212)], 2, 16, [(Go.Value.pointer none), (Go.Value.pointer none)]⟩ := ⟨⟨Tryz.t214, _, by kernel_rfl, rfl, rfl, rfl, by kernel_rfl⟩, ⟨_, Tryz.underlying214, by kernel_rfl, Tryz.stoodInHeld214, by kernel_rfl⟩, by kernel_rfl⟩
theorem tok215 : Wk.TOk Tryz.prog 215 ⟨.strct [(0, 1, 212), (1, 1, 212)], 2, 16, [(Go.Value.pointer none), (Go.Value.pointer none)]⟩ := ⟨⟨Tryz.t215, _, by kernel_rfl, rfl, rfl, rfl, by kernel_rfl⟩, ⟨_, Tryz.underlying215, by kernel_rfl, Tryz.stoodInHeld215, by kernel_rfl⟩, by kernel_rfl⟩
theorem tok216 : Wk.TOk Tryz.prog 216 ⟨.func, 1, 8, [Go.Value.nilFunc]⟩ := ⟨⟨Tryz.t216, _, by kernel_rfl, rfl, rfl, rfl, by kernel_rfl⟩, ⟨_, _, _, Tryz.underlying216⟩, by kernel_rfl⟩
theorem tok217 : Wk.TOk Tryz.prog 217 ⟨.func, 1, 8, [Go.Value.nilFunc]⟩ := ⟨⟨Tryz.t217, _, by kernel_rfl, rfl, rfl, rfl, by kernel_rfl⟩, ⟨_, _, _, Tryz.underlying217⟩, by kernel_rfl⟩
theorem tok218 : Wk.TOk Tryz.prog 218 ⟨.arr 64 5, 64, 64, [(Go.Value.int Go.IntKind.u8 0), (Go.Value.int Go.IntKind.u8 0), (Go.Value.int Go.IntKind.u8 0), (Go.Value.int Go.IntKind.u8 0), (Go.Value.int Go.IntKind.u8 0), (Go.Value.int Go.IntKind.u8 0), (Go.Value.int Go.IntKind.u8 0), (Go.Value.int Go.IntKind.u8 0), (Go.Value.int Go.IntKind.u8 0), (Go.Value.int Go.IntKind.u8 0), (Go.Value.int Go.IntKind.u8 0), (Go.Value.int Go.IntKind.u8 0), (Go.Value.int Go.IntKind.u8 0), (Go.Value.int Go.IntKind.u8 0), (Go.Value.int Go.IntKind.u8 0), (Go.Value.int Go.IntKind.u8 0), (Go.Value.int Go.IntKind.u8 0), (Go.Value.int Go.IntKind.u8 0), (Go.Value.int Go.IntKind.u8 0), (Go.Value.int Go.IntKind.u8 0), (Go.Value.int Go.IntKind.u8 0), (Go.Value.int Go.IntKind.u8 0), (Go.Value.int Go.IntKind.u8 0), (Go.Value.int Go.IntKind.u8 0), (Go.Value.int Go.IntKind.u8 0), (Go.Value.int Go.IntKind.u8 0), (Go.Value.int Go.IntKind.u8 0), (Go.Value.int Go.IntKind.u8 0), (Go.Value.int Go.IntKind.u8 0), (Go.Value.int Go.IntKind.u8 0), (Go.Value.int Go.IntKind.u8 0), (Go.Value.int Go.IntKind.u8 0), (Go.Value.int Go.IntKind.u8 0), (Go.Value.int Go.IntKind.u8 0), (Go.Value.int Go.IntKind.u8 0), (Go.Value.int Go.IntKind.u8 0), (Go.Value.int Go.IntKind.u8 0), (Go.Value.int Go.IntKind.u8 0), (Go.Value.int Go.IntKind.u8 0), (Go.Value.int Go.IntKind.u8 0), (Go.Value.int Go.IntKind.u8 0), (Go.Value.int Go.IntKind.u8 0), (Go.Value.int Go.IntKind.u8 0), (Go.Value.int Go.IntKind.u8 0), (Go.Value.int Go.IntKind.u8 0), (Go.Value.int Go.IntKind.u8 0), (Go.Value.int Go.IntKind.u8 0), (Go.Value.int Go.IntKind.u8 0), (Go.Value.int Go.IntKind.u8 0), (Go.Value.int Go.IntKind.u8 0), (Go.Value.int Go.IntKind.u8 0), (Go.Value.int Go.IntKind.u8 0), (Go.Value.int Go.IntKind.u8 0), (Go.Value.int Go.IntKind.u8 0), (Go.Value.int Go.IntKind.u8 0), (Go.Value.int Go.IntKind.u8 0), (Go.Value.int Go.IntKind.u8 0), (Go.Value.int Go.IntKind.u8 0), (Go.Value.int Go.IntKind.u8 0), (Go.Value.int Go.IntKind.u8 0), (Go.Value.int Go.IntKind.u8 0), (Go.Value.int Go.IntKind.u8 0), (Go.Value.int Go.IntKind.u8 0), (Go.Value.int Go.IntKind.u8 0)]⟩ := ⟨⟨Tryz.t218, _, by kernel_rfl, rfl, rfl, rfl, by kernel_rfl⟩, Tryz.underlying218, by kernel_rfl⟩
theorem tok221 : Wk.TOk Tryz.prog 221 ⟨.arr 16 176, 16, 64, [(Go.Value.int Go.IntKind.u32 0), (Go.Value.int Go.IntKind.u32 0), (Go.Value.int Go.IntKind.u32 0), (Go.Value.int Go.IntKind.u32 0), (Go.Value.int Go.IntKind.u32 0), (Go.Value.int Go.IntKind.u32 0), (Go.Value.int Go.IntKind.u32 0), (Go.Value.int Go.IntKind.u32 0), (Go.Value.int Go.IntKind.u32 0), (Go.Value.int Go.IntKind.u32 0), (Go.Value.int Go.IntKind.u32 0), (Go.Value.int Go.IntKind.u32 0), (Go.Value.int Go.IntKind.u32 0), (Go.Value.int Go.IntKind.u32 0), (Go.Value.int Go.IntKind.u32 0), (Go.Value.int Go.IntKind.u32 0)]⟩ := ⟨⟨Tryz.t221, _, by kernel_rfl, rfl, rfl, rfl, by kernel_rfl⟩, Tryz.underlying221, by kernel_rfl⟩
theorem tok222 : Wk.TOk Tryz.prog 222 ⟨.func, 1, 8, [Go.Value.nilFunc]⟩ := ⟨⟨Tryz.t222, _, by kernel_rfl, rfl, rfl, rfl, by kernel_rfl⟩, ⟨_, _, _, Tryz.underlying222⟩, by kernel_rfl⟩
theorem okT : Wk.Ok Tryz.prog TT := Wk.ok_of TTl ⟨tok1, tok2, tok3, tok4, tok5, tok6, tok7, tok8, tok9, tok10, tok11, tok12, tok15, tok16, tok17, tok20, tok21, tok22, tok23, tok24, tok25, tok26, tok27, tok28, tok29, tok30, tok32, tok34, tok35, tok36, tok37, tok38, tok39, tok40, tok41, tok42, tok43, tok44, tok46, tok47, tok48, tok49, tok50, tok51, tok52, tok53, tok54, tok55, tok57, tok58, tok59, tok61, tok62, tok63, tok64, tok65, tok66, tok67, tok69, tok70, tok71, tok72, tok73, tok74, tok75, tok76, tok77, tok78, tok79, tok80, tok81, tok82, tok83, tok84, tok85, tok86, tok87, tok89, tok90, tok91, tok92, tok93, tok94, tok95, tok96, tok97, tok99, tok100, tok101, tok102, tok103, tok104, tok105, tok106, tok107, tok108, tok109, tok110, tok111, tok112, tok113, tok115, tok117, tok118, tok119, tok120, tok121, tok122, tok123, tok124, tok125, tok126, tok127, tok128, tok129, tok130, tok131, tok132, tok133, tok134, tok136, tok137, tok139, tok140, tok141, tok142, tok143, tok144, tok145, tok146, tok148, tok149, tok150, tok151, tok152, tok153, tok154, tok155, tok156, tok157, tok159, tok160, tok161, tok162, tok163, tok165, tok167, tok168, tok169, tok170, tok171, tok173, tok174, tok175, tok176, tok177, tok178, tok179, tok181, tok182, tok183, tok184, tok185, tok187, tok188, tok189, tok190, tok191, tok194, tok197, tok198, tok199, tok200, tok201, tok204, tok205, tok206, tok207, tok208, tok209, tok210, tok211, tok212, tok213, tok214, tok215, tok216, tok217, tok218, tok221, tok222, trivial⟩ (by kernel_rfl) (by kernel_rfl)
theorem fok8 : Wk.FOk Tryz.prog 8 := ⟨Tryz.f8, Tryz.func8, by kernel_rfl, by kernel_rfl⟩
theorem fok10 : Wk.FOk Tryz.prog 10 := ⟨Tryz.f10, Tryz.func10, by kernel_rfl, by kernel_rfl⟩
theorem fok11 : Wk.FOk Tryz.prog 11 := ⟨Tryz.f11, Tryz.func11, by kernel_rfl, by kernel_rfl⟩
theorem fok13 : Wk.FOk Tryz.prog 13 := ⟨Tryz.f13, Tryz.func13, by kernel_rfl, by kernel_rfl⟩
theorem fok15 : Wk.FOk Tryz.prog 15 := ⟨Tryz.f15, Tryz.func15, by kernel_rfl, by kernel_rfl⟩
theorem fok16 : Wk.FOk Tryz.prog 16 := ⟨Tryz.f16, Tryz.func16, by kernel_rfl, by kernel_rfl⟩
theorem fok17 : Wk.FOk Tryz.prog 17 := ⟨Tryz.f17, Tryz.func17, by kernel_rfl, by kernel_rfl⟩
theorem fok19 : Wk.FOk Tryz.prog 19 := ⟨Tryz.f19, Tryz.func19, by kernel_rfl, by kernel_rfl⟩
theorem fok21 : Wk.FOk Tryz.prog 21 := ⟨Tryz.f21, Tryz.func21, by kernel_rfl, by kernel_rfl⟩
theorem fok23 : Wk.FOk Tryz.prog 23 := ⟨Tryz.f23, Tryz.func23, by kernel_rfl, by kernel_rfl⟩
theorem fok25 : Wk.FOk Tryz.prog 25 := ⟨Tryz.f25, Tryz.func25, by kernel_rfl, by kernel_rfl⟩
theorem fok26 : Wk.FOk Tryz.prog 26 := ⟨Tryz.f26, Tryz.func26, by kernel_rfl, by kernel_rfl⟩
theorem fok29 : Wk.FOk Tryz.prog 29 := ⟨Tryz.f29, Tryz.func29, by kernel_rfl, by kernel_rfl⟩
theorem fok31 : Wk.FOk Tryz.prog 31 := ⟨Tryz.f31, Tryz.func31, by kernel_rfl, by kernel_rfl⟩
theorem fok39 : Wk.FOk Tryz.prog 39 := ⟨Tryz.f39, Tryz.func39, by kernel_rfl, by kernel_rfl⟩
theorem fok40 : Wk.FOk Tryz.prog 40 := ⟨Tryz.f40, Tryz.func40, by kernel_rfl, by kernel_rfl⟩
theorem fok41 : Wk.FOk Tryz.prog 41 := ⟨Tryz.f41, Tryz.func41, by kernel_rfl, by kernel_rfl⟩
theorem fok42 : Wk.FOk Tryz.prog 42 := ⟨Tryz.f42, Tryz.func42, by kernel_rfl, by kernel_rfl⟩
theorem fok45 : Wk.FOk Tryz.prog 45 := ⟨Tryz.f45, Tryz.func45, by kernel_rfl, by kernel_rfl⟩
theorem fok46 : Wk.FOk Tryz.prog 46 := ⟨Tryz.f46, Tryz.func46, by kernel_rfl, by kernel_rfl⟩
theorem fok47 : Wk.FOk Tryz.prog 47 := ⟨Tryz.f47, Tryz.func47, by kernel_rfl, by kernel_rfl⟩
theorem fok48 : Wk.FOk Tryz.prog 48 := ⟨Tryz.f48, Tryz.func48, by kernel_rfl, by kernel_rfl⟩
theorem fok49 : Wk.FOk Tryz.prog 49 := ⟨Tryz.f49, Tryz.func49, by kernel_rfl, by kernel_rfl⟩
theorem fok53 : Wk.FOk Tryz.prog 53 := ⟨Tryz.f53, Tryz.func53, by kernel_rfl, by kernel_rfl⟩
theorem fok54 : Wk.FOk Tryz.prog 54 := ⟨Tryz.f54, Tryz.func54, by kernel_rfl, by kernel_rfl⟩
theorem fok55 : Wk.FOk Tryz.prog 55 := ⟨Tryz.f55, Tryz.func55, by kernel_rfl, by kernel_rfl⟩
theorem fok56 : Wk.FOk Tryz.prog 56 := ⟨Tryz.f56, Tryz.func56, by kernel_rfl, by kernel_rfl⟩
theorem fok57 : Wk.FOk Tryz.prog 57 := ⟨Tryz.f57, Tryz.func57, by kernel_rfl, by kernel_rfl⟩
theorem fok58 : Wk.FOk Tryz.prog 58 := ⟨Tryz.f58, Tryz.func58, by kernel_rfl, by kernel_rfl⟩
theorem fok62 : Wk.FOk Tryz.prog 62 := ⟨Tryz.f62, Tryz.func62, by kernel_rfl, by kernel_rfl⟩
theorem fok64 : Wk.FOk Tryz.prog 64 := ⟨Tryz.f64, Tryz.func64, by kernel_rfl, by kernel_rfl⟩
theorem fok65 : Wk.FOk Tryz.prog 65 := ⟨Tryz.f65, Tryz.func65, by kernel_rfl, by kernel_rfl⟩
theorem fok66 : Wk.FOk Tryz.prog 66 := ⟨Tryz.f66, Tryz.func66, by kernel_rfl, by kernel_rfl⟩
theorem fok71 : Wk.FOk Tryz.prog 71 := ⟨Tryz.f71, Tryz.func71, by kernel_rfl, by kernel_rfl⟩
theorem fok72 : Wk.FOk Tryz.prog 72 := ⟨Tryz.f72, Tryz.func72, by kernel_rfl, by kernel_rfl⟩
theorem fok73 : Wk.FOk Tryz.prog 73 := ⟨Tryz.f73, Tryz.func73, by kernel_rfl, by kernel_rfl⟩
theorem fok85 : Wk.FOk Tryz.prog 85 := ⟨Tryz.f85, Tryz.func85, by kernel_rfl, by kernel_rfl⟩
theorem fok86 : Wk.FOk Tryz.prog 86 := ⟨Tryz.f86, Tryz.func86, by kernel_rfl, by kernel_rfl⟩
theorem fok87 : Wk.FOk Tryz.prog 87 := ⟨Tryz.f87, Tryz.func87, by kernel_rfl, by kernel_rfl⟩
theorem fok88 : Wk.FOk Tryz.prog 88 := ⟨Tryz.f88, Tryz.func88, by kernel_rfl, by kernel_rfl⟩
theorem fok89 : Wk.FOk Tryz.prog 89 := ⟨Tryz.f89, Tryz.func89, by kernel_rfl, by kernel_rfl⟩
theorem fok95 : Wk.FOk Tryz.prog 95 := ⟨Tryz.f95, Tryz.func95, by kernel_rfl, by kernel_rfl⟩
theorem fok96 : Wk.FOk Tryz.prog 96 := ⟨Tryz.f96, Tryz.func96, by kernel_rfl, by kernel_rfl⟩
theorem fok97 : Wk.FOk Tryz.prog 97 := ⟨Tryz.f97, Tryz.func97, by kernel_rfl, by kernel_rfl⟩
theorem fok98 : Wk.FOk Tryz.prog 98 := ⟨Tryz.f98, Tryz.func98, by kernel_rfl, by kernel_rfl⟩
theorem fok103 : Wk.FOk Tryz.prog 103 := ⟨Tryz.f103, Tryz.func103, by kernel_rfl, by kernel_rfl⟩
theorem fok104 : Wk.FOk Tryz.prog 104 := ⟨Tryz.f104, Tryz.func104, by kernel_rfl, by kernel_rfl⟩
theorem fok105 : Wk.FOk Tryz.prog 105 := ⟨Tryz.f105, Tryz.func105, by kernel_rfl, by kernel_rfl⟩
theorem fok106 : Wk.FOk Tryz.prog 106 := ⟨Tryz.f106, Tryz.func106, by kernel_rfl, by kernel_rfl⟩
theorem fok107 : Wk.FOk Tryz.prog 107 := ⟨Tryz.f107, Tryz.func107, by kernel_rfl, by kernel_rfl⟩
theorem fok109 : Wk.FOk Tryz.prog 109 := ⟨Tryz.f109, Tryz.func109, by kernel_rfl, by kernel_rfl⟩
theorem fok111 : Wk.FOk Tryz.prog 111 := ⟨Tryz.f111, Tryz.func111, by kernel_rfl, by kernel_rfl⟩
theorem fok114 : Wk.FOk Tryz.prog 114 := ⟨Tryz.f114, Tryz.func114, by kernel_rfl, by kernel_rfl⟩
theorem fok115 : Wk.FOk Tryz.prog 115 := ⟨Tryz.f115, Tryz.func115, by kernel_rfl, by kernel_rfl⟩
theorem fok123 : Wk.FOk Tryz.prog 123 := ⟨Tryz.f123, Tryz.func123, by kernel_rfl, by kernel_rfl⟩
theorem fok124 : Wk.FOk Tryz.prog 124 := ⟨Tryz.f124, Tryz.func124, by kernel_rfl, by kernel_rfl⟩
theorem fok130 : Wk.FOk Tryz.prog 130 := ⟨Tryz.f130, Tryz.func130, by kernel_rfl, by kernel_rfl⟩
theorem fok131 : Wk.FOk Tryz.prog 131 := ⟨Tryz.f131, Tryz.func131, by kernel_rfl, by kernel_rfl⟩
theorem fok132 : Wk.FOk Tryz.prog 132 := ⟨Tryz.f132, Tryz.func132, by kernel_rfl, by kernel_rfl⟩
theorem fok134 : Wk.FOk Tryz.prog 134 := ⟨Tryz.f134, Tryz.func134, by kernel_rfl, by kernel_rfl⟩
theorem fok135 : Wk.FOk Tryz.prog 135 := ⟨Tryz.f135, Tryz.func135, by kernel_rfl, by kernel_rfl⟩
theorem fok138 : Wk.FOk Tryz.prog 138 := ⟨Tryz.f138, Tryz.func138, by kernel_rfl, by kernel_rfl⟩
theorem fok139 : Wk.FOk Tryz.prog 139 := ⟨Tryz.f139, Tryz.func139, by kernel_rfl, by kernel_rfl⟩
theorem fok140 : Wk.FOk Tryz.prog 140 := ⟨Tryz.f140, Tryz.func140, by kernel_rfl, by kernel_rfl⟩
theorem fok142 : Wk.FOk Tryz.prog 142 := ⟨Tryz.f142, Tryz.func142, by kernel_rfl, by kernel_rfl⟩
theorem fok148 : Wk.FOk Tryz.prog 148 := ⟨Tryz.f148, Tryz.func148, by kernel_rfl, by kernel_rfl⟩
theorem fok152 : Wk.FOk Tryz.prog 152 := ⟨Tryz.f152, Tryz.func152, by kernel_rfl, by kernel_rfl⟩
theorem fok154 : Wk.FOk Tryz.prog 154 := ⟨Tryz.f154, Tryz.func154, by kernel_rfl, by kernel_rfl⟩
theorem fok159 : Wk.FOk Tryz.prog 159 := ⟨Tryz.f159, Tryz.func159, by kernel_rfl, by kernel_rfl⟩
theorem fok160 : Wk.FOk Tryz.prog 160 := ⟨Tryz.f160, Tryz.func160, by kernel_rfl, by kernel_rfl⟩
theorem fok182 : Wk.FOk Tryz.prog 182 := ⟨Tryz.f182, Tryz.func182, by kernel_rfl, by kernel_rfl⟩
theorem fok183 : Wk.FOk Tryz.prog 183 := ⟨Tryz.f183, Tryz.func183, by kernel_rfl, by kernel_rfl⟩
theorem fok184 : Wk.FOk Tryz.prog 184 := ⟨Tryz.f184, Tryz.func184, by kernel_rfl, by kernel_rfl⟩
theorem fok185 : Wk.FOk Tryz.prog 185 := ⟨Tryz.f185, Tryz.func185, by kernel_rfl, by kernel_rfl⟩
end Go.Proofs.YthnlmmkhehphiaaGreatDoor
