/-
  The table of the types of this seat's program, for the walking layer: made by a program (mkseat.py).
-/
import Derived.Test.YthnlmmkhehphiaaDoorRows
import Derived.Test.YthnlmmkhehphiaaDoorEbGs
import Derived.KernelRfl
namespace Go.Proofs.YthnlmmkhehphiaaDoor
open Go
def TTl : List (Option Wk.TI) := [
  none,
  some ⟨.func, 1, 8, [Go.Value.nilFunc]⟩,
  some ⟨.int Go.IntKind.i64, 1, 8, [(Go.Value.int Go.IntKind.i64 0)]⟩,
  some ⟨.int Go.IntKind.i64, 1, 8, [(Go.Value.int Go.IntKind.i64 0)]⟩,
  some ⟨.bool, 1, 1, [(Go.Value.bool false)]⟩,
  some ⟨.int Go.IntKind.u8, 1, 1, [(Go.Value.int Go.IntKind.u8 0)]⟩,
  some ⟨.int Go.IntKind.u8, 1, 1, [(Go.Value.int Go.IntKind.u8 0)]⟩,
  some ⟨.strct [(0, 1, 2), (1, 1, 3), (2, 1, 4), (3, 1, 6)], 4, 24, [(Go.Value.int Go.IntKind.i64 0), (Go.Value.int Go.IntKind.i64 0), (Go.Value.bool false), (Go.Value.int Go.IntKind.u8 0)]⟩,
  some ⟨.strct [(0, 1, 2), (1, 1, 3), (2, 1, 4), (3, 1, 6)], 4, 24, [(Go.Value.int Go.IntKind.i64 0), (Go.Value.int Go.IntKind.i64 0), (Go.Value.bool false), (Go.Value.int Go.IntKind.u8 0)]⟩,
  some ⟨.string, 1, 16, [(Go.Value.string { data := #[] })]⟩,
  some ⟨.string, 1, 16, [(Go.Value.string { data := #[] })]⟩,
  some ⟨.string, 1, 16, [(Go.Value.string { data := #[] })]⟩,
  some ⟨.int Go.IntKind.u64, 1, 8, [(Go.Value.int Go.IntKind.u64 0)]⟩,
  none,
  none,
  some ⟨.ptr 147, 1, 8, [(Go.Value.pointer none)]⟩,
  some ⟨.ptr 150, 1, 8, [(Go.Value.pointer none)]⟩,
  some ⟨.ptr 158, 1, 8, [(Go.Value.pointer none)]⟩,
  none,
  none,
  some ⟨.iface, 1, 16, [Go.Value.nilIface]⟩,
  some ⟨.int Go.IntKind.i32, 1, 4, [(Go.Value.int Go.IntKind.i32 0)]⟩,
  some ⟨.strct [(0, 1, 3), (1, 1, 3), (2, 1, 3)], 3, 24, [(Go.Value.int Go.IntKind.i64 0), (Go.Value.int Go.IntKind.i64 0), (Go.Value.int Go.IntKind.i64 0)]⟩,
  some ⟨.strct [(0, 1, 3), (1, 1, 3), (2, 1, 3)], 3, 24, [(Go.Value.int Go.IntKind.i64 0), (Go.Value.int Go.IntKind.i64 0), (Go.Value.int Go.IntKind.i64 0)]⟩,
  some ⟨.slice 45, 1, 24, [(Go.Value.slice none 0 0)]⟩,
  some ⟨.strct [(0, 3, 23), (3, 1, 3), (4, 1, 24), (5, 1, 3)], 6, 64, [(Go.Value.int Go.IntKind.i64 0), (Go.Value.int Go.IntKind.i64 0), (Go.Value.int Go.IntKind.i64 0), (Go.Value.int Go.IntKind.i64 0), (Go.Value.slice none 0 0), (Go.Value.int Go.IntKind.i64 0)]⟩,
  some ⟨.strct [(0, 3, 23), (3, 1, 3), (4, 1, 24), (5, 1, 3)], 6, 64, [(Go.Value.int Go.IntKind.i64 0), (Go.Value.int Go.IntKind.i64 0), (Go.Value.int Go.IntKind.i64 0), (Go.Value.int Go.IntKind.i64 0), (Go.Value.slice none 0 0), (Go.Value.int Go.IntKind.i64 0)]⟩,
  some ⟨.func, 1, 8, [Go.Value.nilFunc]⟩,
  some ⟨.func, 1, 8, [Go.Value.nilFunc]⟩,
  some ⟨.ptr 56, 1, 8, [(Go.Value.pointer none)]⟩,
  some ⟨.int Go.IntKind.i64, 1, 8, [(Go.Value.int Go.IntKind.i64 0)]⟩,
  none,
  some ⟨.func, 1, 8, [Go.Value.nilFunc]⟩,
  none,
  some ⟨.func, 1, 8, [Go.Value.nilFunc]⟩,
  some ⟨.func, 1, 8, [Go.Value.nilFunc]⟩,
  some ⟨.func, 1, 8, [Go.Value.nilFunc]⟩,
  some ⟨.strct [(0, 1, 3), (1, 1, 3), (2, 1, 3), (3, 1, 3), (4, 1, 3), (5, 1, 9), (6, 1, 9)], 7, 72, [(Go.Value.int Go.IntKind.i64 0), (Go.Value.int Go.IntKind.i64 0), (Go.Value.int Go.IntKind.i64 0), (Go.Value.int Go.IntKind.i64 0), (Go.Value.int Go.IntKind.i64 0), (Go.Value.string { data := #[] }), (Go.Value.string { data := #[] })]⟩,
  some ⟨.strct [(0, 1, 3), (1, 1, 3), (2, 1, 3), (3, 1, 3), (4, 1, 3), (5, 1, 9), (6, 1, 9)], 7, 72, [(Go.Value.int Go.IntKind.i64 0), (Go.Value.int Go.IntKind.i64 0), (Go.Value.int Go.IntKind.i64 0), (Go.Value.int Go.IntKind.i64 0), (Go.Value.int Go.IntKind.i64 0), (Go.Value.string { data := #[] }), (Go.Value.string { data := #[] })]⟩,
  some ⟨.func, 1, 8, [Go.Value.nilFunc]⟩,
  some ⟨.func, 1, 8, [Go.Value.nilFunc]⟩,
  none,
  some ⟨.func, 1, 8, [Go.Value.nilFunc]⟩,
  some ⟨.func, 1, 8, [Go.Value.nilFunc]⟩,
  some ⟨.strct [(0, 1, 3), (1, 1, 9)], 2, 24, [(Go.Value.int Go.IntKind.i64 0), (Go.Value.string { data := #[] })]⟩,
  some ⟨.strct [(0, 1, 3), (1, 1, 9)], 2, 24, [(Go.Value.int Go.IntKind.i64 0), (Go.Value.string { data := #[] })]⟩,
  some ⟨.func, 1, 8, [Go.Value.nilFunc]⟩,
  some ⟨.func, 1, 8, [Go.Value.nilFunc]⟩,
  some ⟨.slice 9, 1, 24, [(Go.Value.slice none 0 0)]⟩,
  none,
  some ⟨.func, 1, 8, [Go.Value.nilFunc]⟩,
  some ⟨.strct [], 0, 0, []⟩,
  some ⟨.strct [], 0, 0, []⟩,
  some ⟨.iface, 1, 16, [Go.Value.nilIface]⟩,
  some ⟨.iface, 1, 16, [Go.Value.nilIface]⟩,
  some ⟨.strct [(0, 1, 54)], 1, 16, [Go.Value.nilIface]⟩,
  some ⟨.strct [(0, 1, 54)], 1, 16, [Go.Value.nilIface]⟩,
  some ⟨.strct [(0, 1, 9)], 1, 16, [(Go.Value.string { data := #[] })]⟩,
  some ⟨.strct [(0, 1, 9)], 1, 16, [(Go.Value.string { data := #[] })]⟩,
  some ⟨.func, 1, 8, [Go.Value.nilFunc]⟩,
  some ⟨.func, 1, 8, [Go.Value.nilFunc]⟩,
  some ⟨.func, 1, 8, [Go.Value.nilFunc]⟩,
  some ⟨.func, 1, 8, [Go.Value.nilFunc]⟩,
  some ⟨.func, 1, 8, [Go.Value.nilFunc]⟩,
  some ⟨.func, 1, 8, [Go.Value.nilFunc]⟩,
  some ⟨.func, 1, 8, [Go.Value.nilFunc]⟩,
  some ⟨.func, 1, 8, [Go.Value.nilFunc]⟩,
  some ⟨.func, 1, 8, [Go.Value.nilFunc]⟩,
  some ⟨.func, 1, 8, [Go.Value.nilFunc]⟩,
  some ⟨.func, 1, 8, [Go.Value.nilFunc]⟩,
  some ⟨.strct [], 0, 0, []⟩,
  none,
  some ⟨.func, 1, 8, [Go.Value.nilFunc]⟩,
  some ⟨.func, 1, 8, [Go.Value.nilFunc]⟩,
  some ⟨.func, 1, 8, [Go.Value.nilFunc]⟩,
  some ⟨.func, 1, 8, [Go.Value.nilFunc]⟩,
  some ⟨.func, 1, 8, [Go.Value.nilFunc]⟩,
  some ⟨.ptr 38, 1, 8, [(Go.Value.pointer none)]⟩,
  some ⟨.ptr 3, 1, 8, [(Go.Value.pointer none)]⟩,
  some ⟨.strct [(0, 1, 78), (1, 1, 3), (2, 1, 3)], 3, 24, [(Go.Value.pointer none), (Go.Value.int Go.IntKind.i64 0), (Go.Value.int Go.IntKind.i64 0)]⟩,
  some ⟨.strct [(0, 1, 78), (1, 1, 3), (2, 1, 3)], 3, 24, [(Go.Value.pointer none), (Go.Value.int Go.IntKind.i64 0), (Go.Value.int Go.IntKind.i64 0)]⟩,
  none,
  some ⟨.func, 1, 8, [Go.Value.nilFunc]⟩,
  some ⟨.func, 1, 8, [Go.Value.nilFunc]⟩,
  some ⟨.func, 1, 8, [Go.Value.nilFunc]⟩,
  some ⟨.func, 1, 8, [Go.Value.nilFunc]⟩,
  some ⟨.func, 1, 8, [Go.Value.nilFunc]⟩,
  some ⟨.func, 1, 8, [Go.Value.nilFunc]⟩,
  some ⟨.func, 1, 8, [Go.Value.nilFunc]⟩,
  some ⟨.func, 1, 8, [Go.Value.nilFunc]⟩,
  some ⟨.func, 1, 8, [Go.Value.nilFunc]⟩,
  some ⟨.func, 1, 8, [Go.Value.nilFunc]⟩,
  some ⟨.func, 1, 8, [Go.Value.nilFunc]⟩,
  some ⟨.func, 1, 8, [Go.Value.nilFunc]⟩,
  some ⟨.func, 1, 8, [Go.Value.nilFunc]⟩,
  some ⟨.int Go.IntKind.u64, 1, 8, [(Go.Value.int Go.IntKind.u64 0)]⟩,
  some ⟨.func, 1, 8, [Go.Value.nilFunc]⟩,
  some ⟨.func, 1, 8, [Go.Value.nilFunc]⟩,
  some ⟨.func, 1, 8, [Go.Value.nilFunc]⟩,
  some ⟨.func, 1, 8, [Go.Value.nilFunc]⟩,
  some ⟨.slice 80, 1, 24, [(Go.Value.slice none 0 0)]⟩,
  none,
  some ⟨.func, 1, 8, [Go.Value.nilFunc]⟩,
  none,
  some ⟨.func, 1, 8, [Go.Value.nilFunc]⟩,
  some ⟨.func, 1, 8, [Go.Value.nilFunc]⟩,
  some ⟨.func, 1, 8, [Go.Value.nilFunc]⟩,
  some ⟨.func, 1, 8, [Go.Value.nilFunc]⟩,
  some ⟨.func, 1, 8, [Go.Value.nilFunc]⟩,
  none,
  some ⟨.func, 1, 8, [Go.Value.nilFunc]⟩,
  some ⟨.arr 3 9, 3, 48, [(Go.Value.string { data := #[] }), (Go.Value.string { data := #[] }), (Go.Value.string { data := #[] })]⟩,
  some ⟨.slice 5, 1, 24, [(Go.Value.slice none 0 0)]⟩,
  none,
  some ⟨.func, 1, 8, [Go.Value.nilFunc]⟩,
  some ⟨.ptr 117, 1, 8, [(Go.Value.pointer none)]⟩,
  some ⟨.strct [(0, 1, 115), (1, 1, 112)], 2, 32, [(Go.Value.pointer none), (Go.Value.slice none 0 0)]⟩,
  some ⟨.strct [(0, 1, 115), (1, 1, 112)], 2, 32, [(Go.Value.pointer none), (Go.Value.slice none 0 0)]⟩,
  some ⟨.iface, 1, 16, [Go.Value.nilIface]⟩,
  some ⟨.iface, 1, 16, [Go.Value.nilIface]⟩,
  none,
  some ⟨.func, 1, 8, [Go.Value.nilFunc]⟩,
  some ⟨.func, 1, 8, [Go.Value.nilFunc]⟩,
  some ⟨.func, 1, 8, [Go.Value.nilFunc]⟩,
  some ⟨.arr 9 5, 9, 9, [(Go.Value.int Go.IntKind.u8 0), (Go.Value.int Go.IntKind.u8 0), (Go.Value.int Go.IntKind.u8 0), (Go.Value.int Go.IntKind.u8 0), (Go.Value.int Go.IntKind.u8 0), (Go.Value.int Go.IntKind.u8 0), (Go.Value.int Go.IntKind.u8 0), (Go.Value.int Go.IntKind.u8 0), (Go.Value.int Go.IntKind.u8 0)]⟩,
  some ⟨.int Go.IntKind.u64, 1, 8, [(Go.Value.int Go.IntKind.u64 0)]⟩,
  none,
  some ⟨.func, 1, 8, [Go.Value.nilFunc]⟩,
  some ⟨.func, 1, 8, [Go.Value.nilFunc]⟩,
  some ⟨.func, 1, 8, [Go.Value.nilFunc]⟩,
  some ⟨.func, 1, 8, [Go.Value.nilFunc]⟩,
  some ⟨.func, 1, 8, [Go.Value.nilFunc]⟩,
  some ⟨.strct [(0, 1, 30)], 1, 8, [(Go.Value.int Go.IntKind.i64 0)]⟩,
  some ⟨.strct [(0, 1, 30)], 1, 8, [(Go.Value.int Go.IntKind.i64 0)]⟩,
  some ⟨.func, 1, 8, [Go.Value.nilFunc]⟩,
  some ⟨.func, 1, 8, [Go.Value.nilFunc]⟩,
  some ⟨.ptr 5, 1, 8, [(Go.Value.pointer none)]⟩,
  some ⟨.func, 1, 8, [Go.Value.nilFunc]⟩,
  some ⟨.func, 1, 8, [Go.Value.nilFunc]⟩,
  none,
  none,
  some ⟨.func, 1, 8, [Go.Value.nilFunc]⟩,
  some ⟨.func, 1, 8, [Go.Value.nilFunc]⟩,
  some ⟨.func, 1, 8, [Go.Value.nilFunc]⟩,
  some ⟨.func, 1, 8, [Go.Value.nilFunc]⟩,
  some ⟨.func, 1, 8, [Go.Value.nilFunc]⟩,
  none,
  none,
  some ⟨.arr 0 16, 0, 0, []⟩,
  none,
  none,
  some ⟨.int Go.IntKind.u32, 1, 4, [(Go.Value.int Go.IntKind.u32 0)]⟩,
  some ⟨.int Go.IntKind.u8, 1, 1, [(Go.Value.int Go.IntKind.u8 0)]⟩,
  some ⟨.int Go.IntKind.u8, 1, 1, [(Go.Value.int Go.IntKind.u8 0)]⟩,
  some ⟨.func, 1, 8, [Go.Value.nilFunc]⟩,
  some ⟨.int Go.IntKind.i32, 1, 4, [(Go.Value.int Go.IntKind.i32 0)]⟩,
  some ⟨.int Go.IntKind.i32, 1, 4, [(Go.Value.int Go.IntKind.i32 0)]⟩,
  none,
  none,
  some ⟨.func, 1, 8, [Go.Value.nilFunc]⟩,
  some ⟨.func, 1, 8, [Go.Value.nilFunc]⟩,
  some ⟨.func, 1, 8, [Go.Value.nilFunc]⟩,
  some ⟨.ptr 171, 1, 8, [(Go.Value.pointer none)]⟩,
  some ⟨.func, 1, 8, [Go.Value.nilFunc]⟩,
  some ⟨.func, 1, 8, [Go.Value.nilFunc]⟩,
  some ⟨.func, 1, 8, [Go.Value.nilFunc]⟩,
  some ⟨.ptr 177, 1, 8, [(Go.Value.pointer none)]⟩,
  some ⟨.strct [(0, 1, 166)], 1, 8, [(Go.Value.pointer none)]⟩,
  some ⟨.strct [(0, 1, 166)], 1, 8, [(Go.Value.pointer none)]⟩,
  some ⟨.func, 1, 8, [Go.Value.nilFunc]⟩,
  some ⟨.strct [(0, 1, 168), (1, 1, 168)], 2, 16, [(Go.Value.pointer none), (Go.Value.pointer none)]⟩,
  some ⟨.strct [(0, 1, 168), (1, 1, 168)], 2, 16, [(Go.Value.pointer none), (Go.Value.pointer none)]⟩,
  some ⟨.func, 1, 8, [Go.Value.nilFunc]⟩,
  some ⟨.func, 1, 8, [Go.Value.nilFunc]⟩,
  some ⟨.arr 8 151, 8, 32, [(Go.Value.int Go.IntKind.u32 0), (Go.Value.int Go.IntKind.u32 0), (Go.Value.int Go.IntKind.u32 0), (Go.Value.int Go.IntKind.u32 0), (Go.Value.int Go.IntKind.u32 0), (Go.Value.int Go.IntKind.u32 0), (Go.Value.int Go.IntKind.u32 0), (Go.Value.int Go.IntKind.u32 0)]⟩,
  some ⟨.arr 64 5, 64, 64, [(Go.Value.int Go.IntKind.u8 0), (Go.Value.int Go.IntKind.u8 0), (Go.Value.int Go.IntKind.u8 0), (Go.Value.int Go.IntKind.u8 0), (Go.Value.int Go.IntKind.u8 0), (Go.Value.int Go.IntKind.u8 0), (Go.Value.int Go.IntKind.u8 0), (Go.Value.int Go.IntKind.u8 0), (Go.Value.int Go.IntKind.u8 0), (Go.Value.int Go.IntKind.u8 0), (Go.Value.int Go.IntKind.u8 0), (Go.Value.int Go.IntKind.u8 0), (Go.Value.int Go.IntKind.u8 0), (Go.Value.int Go.IntKind.u8 0), (Go.Value.int Go.IntKind.u8 0), (Go.Value.int Go.IntKind.u8 0), (Go.Value.int Go.IntKind.u8 0), (Go.Value.int Go.IntKind.u8 0), (Go.Value.int Go.IntKind.u8 0), (Go.Value.int Go.IntKind.u8 0), (Go.Value.int Go.IntKind.u8 0), (Go.Value.int Go.IntKind.u8 0), (Go.Value.int Go.IntKind.u8 0), (Go.Value.int Go.IntKind.u8 0), (Go.Value.int Go.IntKind.u8 0), (Go.Value.int Go.IntKind.u8 0), (Go.Value.int Go.IntKind.u8 0), (Go.Value.int Go.IntKind.u8 0), (Go.Value.int Go.IntKind.u8 0), (Go.Value.int Go.IntKind.u8 0), (Go.Value.int Go.IntKind.u8 0), (Go.Value.int Go.IntKind.u8 0), (Go.Value.int Go.IntKind.u8 0), (Go.Value.int Go.IntKind.u8 0), (Go.Value.int Go.IntKind.u8 0), (Go.Value.int Go.IntKind.u8 0), (Go.Value.int Go.IntKind.u8 0), (Go.Value.int Go.IntKind.u8 0), (Go.Value.int Go.IntKind.u8 0), (Go.Value.int Go.IntKind.u8 0), (Go.Value.int Go.IntKind.u8 0), (Go.Value.int Go.IntKind.u8 0), (Go.Value.int Go.IntKind.u8 0), (Go.Value.int Go.IntKind.u8 0), (Go.Value.int Go.IntKind.u8 0), (Go.Value.int Go.IntKind.u8 0), (Go.Value.int Go.IntKind.u8 0), (Go.Value.int Go.IntKind.u8 0), (Go.Value.int Go.IntKind.u8 0), (Go.Value.int Go.IntKind.u8 0), (Go.Value.int Go.IntKind.u8 0), (Go.Value.int Go.IntKind.u8 0), (Go.Value.int Go.IntKind.u8 0), (Go.Value.int Go.IntKind.u8 0), (Go.Value.int Go.IntKind.u8 0), (Go.Value.int Go.IntKind.u8 0), (Go.Value.int Go.IntKind.u8 0), (Go.Value.int Go.IntKind.u8 0), (Go.Value.int Go.IntKind.u8 0), (Go.Value.int Go.IntKind.u8 0), (Go.Value.int Go.IntKind.u8 0), (Go.Value.int Go.IntKind.u8 0), (Go.Value.int Go.IntKind.u8 0), (Go.Value.int Go.IntKind.u8 0)]⟩,
  none,
  none,
  some ⟨.arr 16 151, 16, 64, [(Go.Value.int Go.IntKind.u32 0), (Go.Value.int Go.IntKind.u32 0), (Go.Value.int Go.IntKind.u32 0), (Go.Value.int Go.IntKind.u32 0), (Go.Value.int Go.IntKind.u32 0), (Go.Value.int Go.IntKind.u32 0), (Go.Value.int Go.IntKind.u32 0), (Go.Value.int Go.IntKind.u32 0), (Go.Value.int Go.IntKind.u32 0), (Go.Value.int Go.IntKind.u32 0), (Go.Value.int Go.IntKind.u32 0), (Go.Value.int Go.IntKind.u32 0), (Go.Value.int Go.IntKind.u32 0), (Go.Value.int Go.IntKind.u32 0), (Go.Value.int Go.IntKind.u32 0), (Go.Value.int Go.IntKind.u32 0)]⟩,
  some ⟨.arr 64 151, 64, 256, [(Go.Value.int Go.IntKind.u32 0), (Go.Value.int Go.IntKind.u32 0), (Go.Value.int Go.IntKind.u32 0), (Go.Value.int Go.IntKind.u32 0), (Go.Value.int Go.IntKind.u32 0), (Go.Value.int Go.IntKind.u32 0), (Go.Value.int Go.IntKind.u32 0), (Go.Value.int Go.IntKind.u32 0), (Go.Value.int Go.IntKind.u32 0), (Go.Value.int Go.IntKind.u32 0), (Go.Value.int Go.IntKind.u32 0), (Go.Value.int Go.IntKind.u32 0), (Go.Value.int Go.IntKind.u32 0), (Go.Value.int Go.IntKind.u32 0), (Go.Value.int Go.IntKind.u32 0), (Go.Value.int Go.IntKind.u32 0), (Go.Value.int Go.IntKind.u32 0), (Go.Value.int Go.IntKind.u32 0), (Go.Value.int Go.IntKind.u32 0), (Go.Value.int Go.IntKind.u32 0), (Go.Value.int Go.IntKind.u32 0), (Go.Value.int Go.IntKind.u32 0), (Go.Value.int Go.IntKind.u32 0), (Go.Value.int Go.IntKind.u32 0), (Go.Value.int Go.IntKind.u32 0), (Go.Value.int Go.IntKind.u32 0), (Go.Value.int Go.IntKind.u32 0), (Go.Value.int Go.IntKind.u32 0), (Go.Value.int Go.IntKind.u32 0), (Go.Value.int Go.IntKind.u32 0), (Go.Value.int Go.IntKind.u32 0), (Go.Value.int Go.IntKind.u32 0), (Go.Value.int Go.IntKind.u32 0), (Go.Value.int Go.IntKind.u32 0), (Go.Value.int Go.IntKind.u32 0), (Go.Value.int Go.IntKind.u32 0), (Go.Value.int Go.IntKind.u32 0), (Go.Value.int Go.IntKind.u32 0), (Go.Value.int Go.IntKind.u32 0), (Go.Value.int Go.IntKind.u32 0), (Go.Value.int Go.IntKind.u32 0), (Go.Value.int Go.IntKind.u32 0), (Go.Value.int Go.IntKind.u32 0), (Go.Value.int Go.IntKind.u32 0), (Go.Value.int Go.IntKind.u32 0), (Go.Value.int Go.IntKind.u32 0), (Go.Value.int Go.IntKind.u32 0), (Go.Value.int Go.IntKind.u32 0), (Go.Value.int Go.IntKind.u32 0), (Go.Value.int Go.IntKind.u32 0), (Go.Value.int Go.IntKind.u32 0), (Go.Value.int Go.IntKind.u32 0), (Go.Value.int Go.IntKind.u32 0), (Go.Value.int Go.IntKind.u32 0), (Go.Value.int Go.IntKind.u32 0), (Go.Value.int Go.IntKind.u32 0), (Go.Value.int Go.IntKind.u32 0), (Go.Value.int Go.IntKind.u32 0), (Go.Value.int Go.IntKind.u32 0), (Go.Value.int Go.IntKind.u32 0), (Go.Value.int Go.IntKind.u32 0), (Go.Value.int Go.IntKind.u32 0), (Go.Value.int Go.IntKind.u32 0), (Go.Value.int Go.IntKind.u32 0)]⟩,
  some ⟨.func, 1, 8, [Go.Value.nilFunc]⟩]
def TT : Wk.Tab := Wk.nth TTl
theorem TT_eq (t : Nat) : TT t = Wk.nth TTl t := rfl
theorem tok1 : Wk.TOk Tryd.prog 1 ⟨.func, 1, 8, [Go.Value.nilFunc]⟩ := ⟨⟨Tryd.t1, _, by kernel_rfl, rfl, rfl, rfl, by kernel_rfl⟩, ⟨_, _, _, Tryd.underlying1⟩, by kernel_rfl⟩
theorem tok2 : Wk.TOk Tryd.prog 2 ⟨.int Go.IntKind.i64, 1, 8, [(Go.Value.int Go.IntKind.i64 0)]⟩ := ⟨⟨Tryd.t2, _, by kernel_rfl, rfl, rfl, rfl, by kernel_rfl⟩, Tryd.underlying2, by kernel_rfl⟩
theorem tok3 : Wk.TOk Tryd.prog 3 ⟨.int Go.IntKind.i64, 1, 8, [(Go.Value.int Go.IntKind.i64 0)]⟩ := ⟨⟨Tryd.t3, _, by kernel_rfl, rfl, rfl, rfl, by kernel_rfl⟩, Tryd.underlying3, by kernel_rfl⟩
theorem tok4 : Wk.TOk Tryd.prog 4 ⟨.bool, 1, 1, [(Go.Value.bool false)]⟩ := ⟨⟨Tryd.t4, _, by kernel_rfl, rfl, rfl, rfl, by kernel_rfl⟩, Tryd.underlying4, by kernel_rfl⟩
theorem tok5 : Wk.TOk Tryd.prog 5 ⟨.int Go.IntKind.u8, 1, 1, [(Go.Value.int Go.IntKind.u8 0)]⟩ := ⟨⟨Tryd.t5, _, by kernel_rfl, rfl, rfl, rfl, by kernel_rfl⟩, Tryd.underlying5, by kernel_rfl⟩
theorem tok6 : Wk.TOk Tryd.prog 6 ⟨.int Go.IntKind.u8, 1, 1, [(Go.Value.int Go.IntKind.u8 0)]⟩ := ⟨⟨Tryd.t6, _, by kernel_rfl, rfl, rfl, rfl, by kernel_rfl⟩, Tryd.underlying6, by kernel_rfl⟩
theorem tok7 : Wk.TOk Tryd.prog 7 ⟨.strct [(0, 1, 2), (1, 1, 3), (2, 1, 4), (3, 1, 6)], 4, 24, [(Go.Value.int Go.IntKind.i64 0), (Go.Value.int Go.IntKind.i64 0), (Go.Value.bool false), (Go.Value.int Go.IntKind.u8 0)]⟩ := ⟨⟨Tryd.t7, _, by kernel_rfl, rfl, rfl, rfl, by kernel_rfl⟩, ⟨_, Tryd.underlying7, by kernel_rfl, Tryd.stoodInHeld7, by kernel_rfl⟩, by kernel_rfl⟩
theorem tok8 : Wk.TOk Tryd.prog 8 ⟨.strct [(0, 1, 2), (1, 1, 3), (2, 1, 4), (3, 1, 6)], 4, 24, [(Go.Value.int Go.IntKind.i64 0), (Go.Value.int Go.IntKind.i64 0), (Go.Value.bool false), (Go.Value.int Go.IntKind.u8 0)]⟩ := ⟨⟨Tryd.t8, _, by kernel_rfl, rfl, rfl, rfl, by kernel_rfl⟩, ⟨_, Tryd.underlying8, by kernel_rfl, Tryd.stoodInHeld8, by kernel_rfl⟩, by kernel_rfl⟩
theorem tok9 : Wk.TOk Tryd.prog 9 ⟨.string, 1, 16, [(Go.Value.string { data := #[] })]⟩ := ⟨⟨Tryd.t9, _, by kernel_rfl, rfl, rfl, rfl, by kernel_rfl⟩, Tryd.underlying9, by kernel_rfl⟩
theorem tok10 : Wk.TOk Tryd.prog 10 ⟨.string, 1, 16, [(Go.Value.string { data := #[] })]⟩ := ⟨⟨Tryd.t10, _, by kernel_rfl, rfl, rfl, rfl, by kernel_rfl⟩, Tryd.underlying10, by kernel_rfl⟩
theorem tok11 : Wk.TOk Tryd.prog 11 ⟨.string, 1, 16, [(Go.Value.string { data := #[] })]⟩ := ⟨⟨Tryd.t11, _, by kernel_rfl, rfl, rfl, rfl, by kernel_rfl⟩, Tryd.underlying11, by kernel_rfl⟩
theorem tok12 : Wk.TOk Tryd.prog 12 ⟨.int Go.IntKind.u64, 1, 8, [(Go.Value.int Go.IntKind.u64 0)]⟩ := ⟨⟨Tryd.t12, _, by kernel_rfl, rfl, rfl, rfl, by kernel_rfl⟩, Tryd.underlying12, by kernel_rfl⟩
theorem tok15 : Wk.TOk Tryd.prog 15 ⟨.ptr 147, 1, 8, [(Go.Value.pointer none)]⟩ := ⟨⟨Tryd.t15, _, by kernel_rfl, rfl, rfl, rfl, by kernel_rfl⟩, Tryd.underlying15, by kernel_rfl⟩
theorem tok16 : Wk.TOk Tryd.prog 16 ⟨.ptr 150, 1, 8, [(Go.Value.pointer none)]⟩ := ⟨⟨Tryd.t16, _, by kernel_rfl, rfl, rfl, rfl, by kernel_rfl⟩, Tryd.underlying16, by kernel_rfl⟩
theorem tok17 : Wk.TOk Tryd.prog 17 ⟨.ptr 158, 1, 8, [(Go.Value.pointer none)]⟩ := ⟨⟨Tryd.t17, _, by kernel_rfl, rfl, rfl, rfl, by kernel_rfl⟩, Tryd.underlying17, by kernel_rfl⟩
theorem tok20 : Wk.TOk Tryd.prog 20 ⟨.iface, 1, 16, [Go.Value.nilIface]⟩ := ⟨⟨Tryd.t20, _, by kernel_rfl, rfl, rfl, rfl, by kernel_rfl⟩, ⟨_, Tryd.underlying20⟩, by kernel_rfl⟩
theorem tok21 : Wk.TOk Tryd.prog 21 ⟨.int Go.IntKind.i32, 1, 4, [(Go.Value.int Go.IntKind.i32 0)]⟩ := ⟨⟨Tryd.t21, _, by kernel_rfl, rfl, rfl, rfl, by kernel_rfl⟩, Tryd.underlying21, by kernel_rfl⟩
theorem tok22 : Wk.TOk Tryd.prog 22 ⟨.strct [(0, 1, 3), (1, 1, 3), (2, 1, 3)], 3, 24, [(Go.Value.int Go.IntKind.i64 0), (Go.Value.int Go.IntKind.i64 0), (Go.Value.int Go.IntKind.i64 0)]⟩ := ⟨⟨Tryd.t22, _, by kernel_rfl, rfl, rfl, rfl, by kernel_rfl⟩, ⟨_, Tryd.underlying22, by kernel_rfl, Tryd.stoodInHeld22, by kernel_rfl⟩, by kernel_rfl⟩
theorem tok23 : Wk.TOk Tryd.prog 23 ⟨.strct [(0, 1, 3), (1, 1, 3), (2, 1, 3)], 3, 24, [(Go.Value.int Go.IntKind.i64 0), (Go.Value.int Go.IntKind.i64 0), (Go.Value.int Go.IntKind.i64 0)]⟩ := ⟨⟨Tryd.t23, _, by kernel_rfl, rfl, rfl, rfl, by kernel_rfl⟩, ⟨_, Tryd.underlying23, by kernel_rfl, Tryd.stoodInHeld23, by kernel_rfl⟩, by kernel_rfl⟩
theorem tok24 : Wk.TOk Tryd.prog 24 ⟨.slice 45, 1, 24, [(Go.Value.slice none 0 0)]⟩ := ⟨⟨Tryd.t24, _, by kernel_rfl, rfl, rfl, rfl, by kernel_rfl⟩, Tryd.underlying24, by kernel_rfl⟩
theorem tok25 : Wk.TOk Tryd.prog 25 ⟨.strct [(0, 3, 23), (3, 1, 3), (4, 1, 24), (5, 1, 3)], 6, 64, [(Go.Value.int Go.IntKind.i64 0), (Go.Value.int Go.IntKind.i64 0), (Go.Value.int Go.IntKind.i64 0), (Go.Value.int Go.IntKind.i64 0), (Go.Value.slice none 0 0), (Go.Value.int Go.IntKind.i64 0)]⟩ := ⟨⟨Tryd.t25, _, by kernel_rfl, rfl, rfl, rfl, by kernel_rfl⟩, ⟨_, Tryd.underlying25, by kernel_rfl, Tryd.stoodInHeld25, by kernel_rfl⟩, by kernel_rfl⟩
theorem tok26 : Wk.TOk Tryd.prog 26 ⟨.strct [(0, 3, 23), (3, 1, 3), (4, 1, 24), (5, 1, 3)], 6, 64, [(Go.Value.int Go.IntKind.i64 0), (Go.Value.int Go.IntKind.i64 0), (Go.Value.int Go.IntKind.i64 0), (Go.Value.int Go.IntKind.i64 0), (Go.Value.slice none 0 0), (Go.Value.int Go.IntKind.i64 0)]⟩ := ⟨⟨Tryd.t26, _, by kernel_rfl, rfl, rfl, rfl, by kernel_rfl⟩, ⟨_, Tryd.underlying26, by kernel_rfl, Tryd.stoodInHeld26, by kernel_rfl⟩, by kernel_rfl⟩
theorem tok27 : Wk.TOk Tryd.prog 27 ⟨.func, 1, 8, [Go.Value.nilFunc]⟩ := ⟨⟨Tryd.t27, _, by kernel_rfl, rfl, rfl, rfl, by kernel_rfl⟩, ⟨_, _, _, Tryd.underlying27⟩, by kernel_rfl⟩
theorem tok28 : Wk.TOk Tryd.prog 28 ⟨.func, 1, 8, [Go.Value.nilFunc]⟩ := ⟨⟨Tryd.t28, _, by kernel_rfl, rfl, rfl, rfl, by kernel_rfl⟩, ⟨_, _, _, Tryd.underlying28⟩, by kernel_rfl⟩
theorem tok29 : Wk.TOk Tryd.prog 29 ⟨.ptr 56, 1, 8, [(Go.Value.pointer none)]⟩ := ⟨⟨Tryd.t29, _, by kernel_rfl, rfl, rfl, rfl, by kernel_rfl⟩, Tryd.underlying29, by kernel_rfl⟩
theorem tok30 : Wk.TOk Tryd.prog 30 ⟨.int Go.IntKind.i64, 1, 8, [(Go.Value.int Go.IntKind.i64 0)]⟩ := ⟨⟨Tryd.t30, _, by kernel_rfl, rfl, rfl, rfl, by kernel_rfl⟩, Tryd.underlying30, by kernel_rfl⟩
theorem tok32 : Wk.TOk Tryd.prog 32 ⟨.func, 1, 8, [Go.Value.nilFunc]⟩ := ⟨⟨Tryd.t32, _, by kernel_rfl, rfl, rfl, rfl, by kernel_rfl⟩, ⟨_, _, _, Tryd.underlying32⟩, by kernel_rfl⟩
theorem tok34 : Wk.TOk Tryd.prog 34 ⟨.func, 1, 8, [Go.Value.nilFunc]⟩ := ⟨⟨Tryd.t34, _, by kernel_rfl, rfl, rfl, rfl, by kernel_rfl⟩, ⟨_, _, _, Tryd.underlying34⟩, by kernel_rfl⟩
theorem tok35 : Wk.TOk Tryd.prog 35 ⟨.func, 1, 8, [Go.Value.nilFunc]⟩ := ⟨⟨Tryd.t35, _, by kernel_rfl, rfl, rfl, rfl, by kernel_rfl⟩, ⟨_, _, _, Tryd.underlying35⟩, by kernel_rfl⟩
theorem tok36 : Wk.TOk Tryd.prog 36 ⟨.func, 1, 8, [Go.Value.nilFunc]⟩ := ⟨⟨Tryd.t36, _, by kernel_rfl, rfl, rfl, rfl, by kernel_rfl⟩, ⟨_, _, _, Tryd.underlying36⟩, by kernel_rfl⟩
theorem tok37 : Wk.TOk Tryd.prog 37 ⟨.strct [(0, 1, 3), (1, 1, 3), (2, 1, 3), (3, 1, 3), (4, 1, 3), (5, 1, 9), (6, 1, 9)], 7, 72, [(Go.Value.int Go.IntKind.i64 0), (Go.Value.int Go.IntKind.i64 0), (Go.Value.int Go.IntKind.i64 0), (Go.Value.int Go.IntKind.i64 0), (Go.Value.int Go.IntKind.i64 0), (Go.Value.string { data := #[] }), (Go.Value.string { data := #[] })]⟩ := ⟨⟨Tryd.t37, _, by kernel_rfl, rfl, rfl, rfl, by kernel_rfl⟩, ⟨_, Tryd.underlying37, by kernel_rfl, Tryd.stoodInHeld37, by kernel_rfl⟩, by kernel_rfl⟩
theorem tok38 : Wk.TOk Tryd.prog 38 ⟨.strct [(0, 1, 3), (1, 1, 3), (2, 1, 3), (3, 1, 3), (4, 1, 3), (5, 1, 9), (6, 1, 9)], 7, 72, [(Go.Value.int Go.IntKind.i64 0), (Go.Value.int Go.IntKind.i64 0), (Go.Value.int Go.IntKind.i64 0), (Go.Value.int Go.IntKind.i64 0), (Go.Value.int Go.IntKind.i64 0), (Go.Value.string { data := #[] }), (Go.Value.string { data := #[] })]⟩ := ⟨⟨Tryd.t38, _, by kernel_rfl, rfl, rfl, rfl, by kernel_rfl⟩, ⟨_, Tryd.underlying38, by kernel_rfl, Tryd.stoodInHeld38, by kernel_rfl⟩, by kernel_rfl⟩
theorem tok39 : Wk.TOk Tryd.prog 39 ⟨.func, 1, 8, [Go.Value.nilFunc]⟩ := ⟨⟨Tryd.t39, _, by kernel_rfl, rfl, rfl, rfl, by kernel_rfl⟩, ⟨_, _, _, Tryd.underlying39⟩, by kernel_rfl⟩
theorem tok40 : Wk.TOk Tryd.prog 40 ⟨.func, 1, 8, [Go.Value.nilFunc]⟩ := ⟨⟨Tryd.t40, _, by kernel_rfl, rfl, rfl, rfl, by kernel_rfl⟩, ⟨_, _, _, Tryd.underlying40⟩, by kernel_rfl⟩
theorem tok42 : Wk.TOk Tryd.prog 42 ⟨.func, 1, 8, [Go.Value.nilFunc]⟩ := ⟨⟨Tryd.t42, _, by kernel_rfl, rfl, rfl, rfl, by kernel_rfl⟩, ⟨_, _, _, Tryd.underlying42⟩, by kernel_rfl⟩
theorem tok43 : Wk.TOk Tryd.prog 43 ⟨.func, 1, 8, [Go.Value.nilFunc]⟩ := ⟨⟨Tryd.t43, _, by kernel_rfl, rfl, rfl, rfl, by kernel_rfl⟩, ⟨_, _, _, Tryd.underlying43⟩, by kernel_rfl⟩
theorem tok44 : Wk.TOk Tryd.prog 44 ⟨.strct [(0, 1, 3), (1, 1, 9)], 2, 24, [(Go.Value.int Go.IntKind.i64 0), (Go.Value.string { data := #[] })]⟩ := ⟨⟨Tryd.t44, _, by kernel_rfl, rfl, rfl, rfl, by kernel_rfl⟩, ⟨_, Tryd.underlying44, by kernel_rfl, Tryd.stoodInHeld44, by kernel_rfl⟩, by kernel_rfl⟩
theorem tok45 : Wk.TOk Tryd.prog 45 ⟨.strct [(0, 1, 3), (1, 1, 9)], 2, 24, [(Go.Value.int Go.IntKind.i64 0), (Go.Value.string { data := #[] })]⟩ := ⟨⟨Tryd.t45, _, by kernel_rfl, rfl, rfl, rfl, by kernel_rfl⟩, ⟨_, Tryd.underlying45, by kernel_rfl, Tryd.stoodInHeld45, by kernel_rfl⟩, by kernel_rfl⟩
theorem tok46 : Wk.TOk Tryd.prog 46 ⟨.func, 1, 8, [Go.Value.nilFunc]⟩ := ⟨⟨Tryd.t46, _, by kernel_rfl, rfl, rfl, rfl, by kernel_rfl⟩, ⟨_, _, _, Tryd.underlying46⟩, by kernel_rfl⟩
theorem tok47 : Wk.TOk Tryd.prog 47 ⟨.func, 1, 8, [Go.Value.nilFunc]⟩ := ⟨⟨Tryd.t47, _, by kernel_rfl, rfl, rfl, rfl, by kernel_rfl⟩, ⟨_, _, _, Tryd.underlying47⟩, by kernel_rfl⟩
theorem tok48 : Wk.TOk Tryd.prog 48 ⟨.slice 9, 1, 24, [(Go.Value.slice none 0 0)]⟩ := ⟨⟨Tryd.t48, _, by kernel_rfl, rfl, rfl, rfl, by kernel_rfl⟩, Tryd.underlying48, by kernel_rfl⟩
theorem tok50 : Wk.TOk Tryd.prog 50 ⟨.func, 1, 8, [Go.Value.nilFunc]⟩ := ⟨⟨Tryd.t50, _, by kernel_rfl, rfl, rfl, rfl, by kernel_rfl⟩, ⟨_, _, _, Tryd.underlying50⟩, by kernel_rfl⟩
theorem tok51 : Wk.TOk Tryd.prog 51 ⟨.strct [], 0, 0, []⟩ := ⟨⟨Tryd.t51, _, by kernel_rfl, rfl, rfl, rfl, by kernel_rfl⟩, ⟨_, Tryd.underlying51, by kernel_rfl, Tryd.stoodInHeld51, by kernel_rfl⟩, by kernel_rfl⟩
theorem tok52 : Wk.TOk Tryd.prog 52 ⟨.strct [], 0, 0, []⟩ := ⟨⟨Tryd.t52, _, by kernel_rfl, rfl, rfl, rfl, by kernel_rfl⟩, ⟨_, Tryd.underlying52, by kernel_rfl, Tryd.stoodInHeld52, by kernel_rfl⟩, by kernel_rfl⟩
theorem tok53 : Wk.TOk Tryd.prog 53 ⟨.iface, 1, 16, [Go.Value.nilIface]⟩ := ⟨⟨Tryd.t53, _, by kernel_rfl, rfl, rfl, rfl, by kernel_rfl⟩, ⟨_, Tryd.underlying53⟩, by kernel_rfl⟩
theorem tok54 : Wk.TOk Tryd.prog 54 ⟨.iface, 1, 16, [Go.Value.nilIface]⟩ := ⟨⟨Tryd.t54, _, by kernel_rfl, rfl, rfl, rfl, by kernel_rfl⟩, ⟨_, Tryd.underlying54⟩, by kernel_rfl⟩
theorem tok55 : Wk.TOk Tryd.prog 55 ⟨.strct [(0, 1, 54)], 1, 16, [Go.Value.nilIface]⟩ := ⟨⟨Tryd.t55, _, by kernel_rfl, rfl, rfl, rfl, by kernel_rfl⟩, ⟨_, Tryd.underlying55, by kernel_rfl, Tryd.stoodInHeld55, by kernel_rfl⟩, by kernel_rfl⟩
theorem tok56 : Wk.TOk Tryd.prog 56 ⟨.strct [(0, 1, 54)], 1, 16, [Go.Value.nilIface]⟩ := ⟨⟨Tryd.t56, _, by kernel_rfl, rfl, rfl, rfl, by kernel_rfl⟩, ⟨_, Tryd.underlying56, by kernel_rfl, Tryd.stoodInHeld56, by kernel_rfl⟩, by kernel_rfl⟩
theorem tok57 : Wk.TOk Tryd.prog 57 ⟨.strct [(0, 1, 9)], 1, 16, [(Go.Value.string { data := #[] })]⟩ := ⟨⟨Tryd.t57, _, by kernel_rfl, rfl, rfl, rfl, by kernel_rfl⟩, ⟨_, Tryd.underlying57, by kernel_rfl, Tryd.stoodInHeld57, by kernel_rfl⟩, by kernel_rfl⟩
theorem tok58 : Wk.TOk Tryd.prog 58 ⟨.strct [(0, 1, 9)], 1, 16, [(Go.Value.string { data := #[] })]⟩ := ⟨⟨Tryd.t58, _, by kernel_rfl, rfl, rfl, rfl, by kernel_rfl⟩, ⟨_, Tryd.underlying58, by kernel_rfl, Tryd.stoodInHeld58, by kernel_rfl⟩, by kernel_rfl⟩
theorem tok59 : Wk.TOk Tryd.prog 59 ⟨.func, 1, 8, [Go.Value.nilFunc]⟩ := ⟨⟨Tryd.t59, _, by kernel_rfl, rfl, rfl, rfl, by kernel_rfl⟩, ⟨_, _, _, Tryd.underlying59⟩, by kernel_rfl⟩
theorem tok60 : Wk.TOk Tryd.prog 60 ⟨.func, 1, 8, [Go.Value.nilFunc]⟩ := ⟨⟨Tryd.t60, _, by kernel_rfl, rfl, rfl, rfl, by kernel_rfl⟩, ⟨_, _, _, Tryd.underlying60⟩, by kernel_rfl⟩
theorem tok61 : Wk.TOk Tryd.prog 61 ⟨.func, 1, 8, [Go.Value.nilFunc]⟩ := ⟨⟨Tryd.t61, _, by kernel_rfl, rfl, rfl, rfl, by kernel_rfl⟩, ⟨_, _, _, Tryd.underlying61⟩, by kernel_rfl⟩
theorem tok62 : Wk.TOk Tryd.prog 62 ⟨.func, 1, 8, [Go.Value.nilFunc]⟩ := ⟨⟨Tryd.t62, _, by kernel_rfl, rfl, rfl, rfl, by kernel_rfl⟩, ⟨_, _, _, Tryd.underlying62⟩, by kernel_rfl⟩
theorem tok63 : Wk.TOk Tryd.prog 63 ⟨.func, 1, 8, [Go.Value.nilFunc]⟩ := ⟨⟨Tryd.t63, _, by kernel_rfl, rfl, rfl, rfl, by kernel_rfl⟩, ⟨_, _, _, Tryd.underlying63⟩, by kernel_rfl⟩
theorem tok64 : Wk.TOk Tryd.prog 64 ⟨.func, 1, 8, [Go.Value.nilFunc]⟩ := ⟨⟨Tryd.t64, _, by kernel_rfl, rfl, rfl, rfl, by kernel_rfl⟩, ⟨_, _, _, Tryd.underlying64⟩, by kernel_rfl⟩
theorem tok65 : Wk.TOk Tryd.prog 65 ⟨.func, 1, 8, [Go.Value.nilFunc]⟩ := ⟨⟨Tryd.t65, _, by kernel_rfl, rfl, rfl, rfl, by kernel_rfl⟩, ⟨_, _, _, Tryd.underlying65⟩, by kernel_rfl⟩
theorem tok66 : Wk.TOk Tryd.prog 66 ⟨.func, 1, 8, [Go.Value.nilFunc]⟩ := ⟨⟨Tryd.t66, _, by kernel_rfl, rfl, rfl, rfl, by kernel_rfl⟩, ⟨_, _, _, Tryd.underlying66⟩, by kernel_rfl⟩
theorem tok67 : Wk.TOk Tryd.prog 67 ⟨.func, 1, 8, [Go.Value.nilFunc]⟩ := ⟨⟨Tryd.t67, _, by kernel_rfl, rfl, rfl, rfl, by kernel_rfl⟩, ⟨_, _, _, Tryd.underlying67⟩, by kernel_rfl⟩
theorem tok68 : Wk.TOk Tryd.prog 68 ⟨.func, 1, 8, [Go.Value.nilFunc]⟩ := ⟨⟨Tryd.t68, _, by kernel_rfl, rfl, rfl, rfl, by kernel_rfl⟩, ⟨_, _, _, Tryd.underlying68⟩, by kernel_rfl⟩
theorem tok69 : Wk.TOk Tryd.prog 69 ⟨.func, 1, 8, [Go.Value.nilFunc]⟩ := ⟨⟨Tryd.t69, _, by kernel_rfl, rfl, rfl, rfl, by kernel_rfl⟩, ⟨_, _, _, Tryd.underlying69⟩, by kernel_rfl⟩
theorem tok70 : Wk.TOk Tryd.prog 70 ⟨.strct [], 0, 0, []⟩ := ⟨⟨Tryd.t70, _, by kernel_rfl, rfl, rfl, rfl, by kernel_rfl⟩, ⟨_, Tryd.underlying70, by kernel_rfl, Tryd.stoodInHeld70, by kernel_rfl⟩, by kernel_rfl⟩
theorem tok72 : Wk.TOk Tryd.prog 72 ⟨.func, 1, 8, [Go.Value.nilFunc]⟩ := ⟨⟨Tryd.t72, _, by kernel_rfl, rfl, rfl, rfl, by kernel_rfl⟩, ⟨_, _, _, Tryd.underlying72⟩, by kernel_rfl⟩
theorem tok73 : Wk.TOk Tryd.prog 73 ⟨.func, 1, 8, [Go.Value.nilFunc]⟩ := ⟨⟨Tryd.t73, _, by kernel_rfl, rfl, rfl, rfl, by kernel_rfl⟩, ⟨_, _, _, Tryd.underlying73⟩, by kernel_rfl⟩
theorem tok74 : Wk.TOk Tryd.prog 74 ⟨.func, 1, 8, [Go.Value.nilFunc]⟩ := ⟨⟨Tryd.t74, _, by kernel_rfl, rfl, rfl, rfl, by kernel_rfl⟩, ⟨_, _, _, Tryd.underlying74⟩, by kernel_rfl⟩
theorem tok75 : Wk.TOk Tryd.prog 75 ⟨.func, 1, 8, [Go.Value.nilFunc]⟩ := ⟨⟨Tryd.t75, _, by kernel_rfl, rfl, rfl, rfl, by kernel_rfl⟩, ⟨_, _, _, Tryd.underlying75⟩, by kernel_rfl⟩
theorem tok76 : Wk.TOk Tryd.prog 76 ⟨.func, 1, 8, [Go.Value.nilFunc]⟩ := ⟨⟨Tryd.t76, _, by kernel_rfl, rfl, rfl, rfl, by kernel_rfl⟩, ⟨_, _, _, Tryd.underlying76⟩, by kernel_rfl⟩
theorem tok77 : Wk.TOk Tryd.prog 77 ⟨.ptr 38, 1, 8, [(Go.Value.pointer none)]⟩ := ⟨⟨Tryd.t77, _, by kernel_rfl, rfl, rfl, rfl, by kernel_rfl⟩, Tryd.underlying77, by kernel_rfl⟩
theorem tok78 : Wk.TOk Tryd.prog 78 ⟨.ptr 3, 1, 8, [(Go.Value.pointer none)]⟩ := ⟨⟨Tryd.t78, _, by kernel_rfl, rfl, rfl, rfl, by kernel_rfl⟩, Tryd.underlying78, by kernel_rfl⟩
theorem tok79 : Wk.TOk Tryd.prog 79 ⟨.strct [(0, 1, 78), (1, 1, 3), (2, 1, 3)], 3, 24, [(Go.Value.pointer none), (Go.Value.int Go.IntKind.i64 0), (Go.Value.int Go.IntKind.i64 0)]⟩ := ⟨⟨Tryd.t79, _, by kernel_rfl, rfl, rfl, rfl, by kernel_rfl⟩, ⟨_, Tryd.underlying79, by kernel_rfl, Tryd.stoodInHeld79, by kernel_rfl⟩, by kernel_rfl⟩
theorem tok80 : Wk.TOk Tryd.prog 80 ⟨.strct [(0, 1, 78), (1, 1, 3), (2, 1, 3)], 3, 24, [(Go.Value.pointer none), (Go.Value.int Go.IntKind.i64 0), (Go.Value.int Go.IntKind.i64 0)]⟩ := ⟨⟨Tryd.t80, _, by kernel_rfl, rfl, rfl, rfl, by kernel_rfl⟩, ⟨_, Tryd.underlying80, by kernel_rfl, Tryd.stoodInHeld80, by kernel_rfl⟩, by kernel_rfl⟩
theorem tok82 : Wk.TOk Tryd.prog 82 ⟨.func, 1, 8, [Go.Value.nilFunc]⟩ := ⟨⟨Tryd.t82, _, by kernel_rfl, rfl, rfl, rfl, by kernel_rfl⟩, ⟨_, _, _, Tryd.underlying82⟩, by kernel_rfl⟩
theorem tok83 : Wk.TOk Tryd.prog 83 ⟨.func, 1, 8, [Go.Value.nilFunc]⟩ := ⟨⟨Tryd.t83, _, by kernel_rfl, rfl, rfl, rfl, by kernel_rfl⟩, ⟨_, _, _, Tryd.underlying83⟩, by kernel_rfl⟩
theorem tok84 : Wk.TOk Tryd.prog 84 ⟨.func, 1, 8, [Go.Value.nilFunc]⟩ := ⟨⟨Tryd.t84, _, by kernel_rfl, rfl, rfl, rfl, by kernel_rfl⟩, ⟨_, _, _, Tryd.underlying84⟩, by kernel_rfl⟩
theorem tok85 : Wk.TOk Tryd.prog 85 ⟨.func, 1, 8, [Go.Value.nilFunc]⟩ := ⟨⟨Tryd.t85, _, by kernel_rfl, rfl, rfl, rfl, by kernel_rfl⟩, ⟨_, _, _, Tryd.underlying85⟩, by kernel_rfl⟩
theorem tok86 : Wk.TOk Tryd.prog 86 ⟨.func, 1, 8, [Go.Value.nilFunc]⟩ := ⟨⟨Tryd.t86, _, by kernel_rfl, rfl, rfl, rfl, by kernel_rfl⟩, ⟨_, _, _, Tryd.underlying86⟩, by kernel_rfl⟩
theorem tok87 : Wk.TOk Tryd.prog 87 ⟨.func, 1, 8, [Go.Value.nilFunc]⟩ := ⟨⟨Tryd.t87, _, by kernel_rfl, rfl, rfl, rfl, by kernel_rfl⟩, ⟨_, _, _, Tryd.underlying87⟩, by kernel_rfl⟩
theorem tok88 : Wk.TOk Tryd.prog 88 ⟨.func, 1, 8, [Go.Value.nilFunc]⟩ := ⟨⟨Tryd.t88, _, by kernel_rfl, rfl, rfl, rfl, by kernel_rfl⟩, ⟨_, _, _, Tryd.underlying88⟩, by kernel_rfl⟩
theorem tok89 : Wk.TOk Tryd.prog 89 ⟨.func, 1, 8, [Go.Value.nilFunc]⟩ := ⟨⟨Tryd.t89, _, by kernel_rfl, rfl, rfl, rfl, by kernel_rfl⟩, ⟨_, _, _, Tryd.underlying89⟩, by kernel_rfl⟩
theorem tok90 : Wk.TOk Tryd.prog 90 ⟨.func, 1, 8, [Go.Value.nilFunc]⟩ := ⟨⟨Tryd.t90, _, by kernel_rfl, rfl, rfl, rfl, by kernel_rfl⟩, ⟨_, _, _, Tryd.underlying90⟩, by kernel_rfl⟩
theorem tok91 : Wk.TOk Tryd.prog 91 ⟨.func, 1, 8, [Go.Value.nilFunc]⟩ := ⟨⟨Tryd.t91, _, by kernel_rfl, rfl, rfl, rfl, by kernel_rfl⟩, ⟨_, _, _, Tryd.underlying91⟩, by kernel_rfl⟩
theorem tok92 : Wk.TOk Tryd.prog 92 ⟨.func, 1, 8, [Go.Value.nilFunc]⟩ := ⟨⟨Tryd.t92, _, by kernel_rfl, rfl, rfl, rfl, by kernel_rfl⟩, ⟨_, _, _, Tryd.underlying92⟩, by kernel_rfl⟩
theorem tok93 : Wk.TOk Tryd.prog 93 ⟨.func, 1, 8, [Go.Value.nilFunc]⟩ := ⟨⟨Tryd.t93, _, by kernel_rfl, rfl, rfl, rfl, by kernel_rfl⟩, ⟨_, _, _, Tryd.underlying93⟩, by kernel_rfl⟩
theorem tok94 : Wk.TOk Tryd.prog 94 ⟨.func, 1, 8, [Go.Value.nilFunc]⟩ := ⟨⟨Tryd.t94, _, by kernel_rfl, rfl, rfl, rfl, by kernel_rfl⟩, ⟨_, _, _, Tryd.underlying94⟩, by kernel_rfl⟩
theorem tok95 : Wk.TOk Tryd.prog 95 ⟨.int Go.IntKind.u64, 1, 8, [(Go.Value.int Go.IntKind.u64 0)]⟩ := ⟨⟨Tryd.t95, _, by kernel_rfl, rfl, rfl, rfl, by kernel_rfl⟩, Tryd.underlying95, by kernel_rfl⟩
theorem tok96 : Wk.TOk Tryd.prog 96 ⟨.func, 1, 8, [Go.Value.nilFunc]⟩ := ⟨⟨Tryd.t96, _, by kernel_rfl, rfl, rfl, rfl, by kernel_rfl⟩, ⟨_, _, _, Tryd.underlying96⟩, by kernel_rfl⟩
theorem tok97 : Wk.TOk Tryd.prog 97 ⟨.func, 1, 8, [Go.Value.nilFunc]⟩ := ⟨⟨Tryd.t97, _, by kernel_rfl, rfl, rfl, rfl, by kernel_rfl⟩, ⟨_, _, _, Tryd.underlying97⟩, by kernel_rfl⟩
theorem tok98 : Wk.TOk Tryd.prog 98 ⟨.func, 1, 8, [Go.Value.nilFunc]⟩ := ⟨⟨Tryd.t98, _, by kernel_rfl, rfl, rfl, rfl, by kernel_rfl⟩, ⟨_, _, _, Tryd.underlying98⟩, by kernel_rfl⟩
theorem tok99 : Wk.TOk Tryd.prog 99 ⟨.func, 1, 8, [Go.Value.nilFunc]⟩ := ⟨⟨Tryd.t99, _, by kernel_rfl, rfl, rfl, rfl, by kernel_rfl⟩, ⟨_, _, _, Tryd.underlying99⟩, by kernel_rfl⟩
theorem tok100 : Wk.TOk Tryd.prog 100 ⟨.slice 80, 1, 24, [(Go.Value.slice none 0 0)]⟩ := ⟨⟨Tryd.t100, _, by kernel_rfl, rfl, rfl, rfl, by kernel_rfl⟩, Tryd.underlying100, by kernel_rfl⟩
theorem tok102 : Wk.TOk Tryd.prog 102 ⟨.func, 1, 8, [Go.Value.nilFunc]⟩ := ⟨⟨Tryd.t102, _, by kernel_rfl, rfl, rfl, rfl, by kernel_rfl⟩, ⟨_, _, _, Tryd.underlying102⟩, by kernel_rfl⟩
theorem tok104 : Wk.TOk Tryd.prog 104 ⟨.func, 1, 8, [Go.Value.nilFunc]⟩ := ⟨⟨Tryd.t104, _, by kernel_rfl, rfl, rfl, rfl, by kernel_rfl⟩, ⟨_, _, _, Tryd.underlying104⟩, by kernel_rfl⟩
theorem tok105 : Wk.TOk Tryd.prog 105 ⟨.func, 1, 8, [Go.Value.nilFunc]⟩ := ⟨⟨Tryd.t105, _, by kernel_rfl, rfl, rfl, rfl, by kernel_rfl⟩, ⟨_, _, _, Tryd.underlying105⟩, by kernel_rfl⟩
theorem tok106 : Wk.TOk Tryd.prog 106 ⟨.func, 1, 8, [Go.Value.nilFunc]⟩ := ⟨⟨Tryd.t106, _, by kernel_rfl, rfl, rfl, rfl, by kernel_rfl⟩, ⟨_, _, _, Tryd.underlying106⟩, by kernel_rfl⟩
theorem tok107 : Wk.TOk Tryd.prog 107 ⟨.func, 1, 8, [Go.Value.nilFunc]⟩ := ⟨⟨Tryd.t107, _, by kernel_rfl, rfl, rfl, rfl, by kernel_rfl⟩, ⟨_, _, _, Tryd.underlying107⟩, by kernel_rfl⟩
theorem tok108 : Wk.TOk Tryd.prog 108 ⟨.func, 1, 8, [Go.Value.nilFunc]⟩ := ⟨⟨Tryd.t108, _, by kernel_rfl, rfl, rfl, rfl, by kernel_rfl⟩, ⟨_, _, _, Tryd.underlying108⟩, by kernel_rfl⟩
theorem tok110 : Wk.TOk Tryd.prog 110 ⟨.func, 1, 8, [Go.Value.nilFunc]⟩ := ⟨⟨Tryd.t110, _, by kernel_rfl, rfl, rfl, rfl, by kernel_rfl⟩, ⟨_, _, _, Tryd.underlying110⟩, by kernel_rfl⟩
theorem tok111 : Wk.TOk Tryd.prog 111 ⟨.arr 3 9, 3, 48, [(Go.Value.string { data := #[] }), (Go.Value.string { data := #[] }), (Go.Value.string { data := #[] })]⟩ := ⟨⟨Tryd.t111, _, by kernel_rfl, rfl, rfl, rfl, by kernel_rfl⟩, Tryd.underlying111, by kernel_rfl⟩
theorem tok112 : Wk.TOk Tryd.prog 112 ⟨.slice 5, 1, 24, [(Go.Value.slice none 0 0)]⟩ := ⟨⟨Tryd.t112, _, by kernel_rfl, rfl, rfl, rfl, by kernel_rfl⟩, Tryd.underlying112, by kernel_rfl⟩
theorem tok114 : Wk.TOk Tryd.prog 114 ⟨.func, 1, 8, [Go.Value.nilFunc]⟩ := ⟨⟨Tryd.t114, _, by kernel_rfl, rfl, rfl, rfl, by kernel_rfl⟩, ⟨_, _, _, Tryd.underlying114⟩, by kernel_rfl⟩
theorem tok115 : Wk.TOk Tryd.prog 115 ⟨.ptr 117, 1, 8, [(Go.Value.pointer none)]⟩ := ⟨⟨Tryd.t115, _, by kernel_rfl, rfl, rfl, rfl, by kernel_rfl⟩, Tryd.underlying115, by kernel_rfl⟩
theorem tok116 : Wk.TOk Tryd.prog 116 ⟨.strct [(0, 1, 115), (1, 1, 112)], 2, 32, [(Go.Value.pointer none), (Go.Value.slice none 0 0)]⟩ := ⟨⟨Tryd.t116, _, by kernel_rfl, rfl, rfl, rfl, by kernel_rfl⟩, ⟨_, Tryd.underlying116, by kernel_rfl, Tryd.stoodInHeld116, by kernel_rfl⟩, by kernel_rfl⟩
theorem tok117 : Wk.TOk Tryd.prog 117 ⟨.strct [(0, 1, 115), (1, 1, 112)], 2, 32, [(Go.Value.pointer none), (Go.Value.slice none 0 0)]⟩ := ⟨⟨Tryd.t117, _, by kernel_rfl, rfl, rfl, rfl, by kernel_rfl⟩, ⟨_, Tryd.underlying117, by kernel_rfl, Tryd.stoodInHeld117, by kernel_rfl⟩, by kernel_rfl⟩
theorem tok118 : Wk.TOk Tryd.prog 118 ⟨.iface, 1, 16, [Go.Value.nilIface]⟩ := ⟨⟨Tryd.t118, _, by kernel_rfl, rfl, rfl, rfl, by kernel_rfl⟩, ⟨_, Tryd.underlying118⟩, by kernel_rfl⟩
theorem tok119 : Wk.TOk Tryd.prog 119 ⟨.iface, 1, 16, [Go.Value.nilIface]⟩ := ⟨⟨Tryd.t119, _, by kernel_rfl, rfl, rfl, rfl, by kernel_rfl⟩, ⟨_, Tryd.underlying119⟩, by kernel_rfl⟩
theorem tok121 : Wk.TOk Tryd.prog 121 ⟨.func, 1, 8, [Go.Value.nilFunc]⟩ := ⟨⟨Tryd.t121, _, by kernel_rfl, rfl, rfl, rfl, by kernel_rfl⟩, ⟨_, _, _, Tryd.underlying121⟩, by kernel_rfl⟩
theorem tok122 : Wk.TOk Tryd.prog 122 ⟨.func, 1, 8, [Go.Value.nilFunc]⟩ := ⟨⟨Tryd.t122, _, by kernel_rfl, rfl, rfl, rfl, by kernel_rfl⟩, ⟨_, _, _, Tryd.underlying122⟩, by kernel_rfl⟩
theorem tok123 : Wk.TOk Tryd.prog 123 ⟨.func, 1, 8, [Go.Value.nilFunc]⟩ := ⟨⟨Tryd.t123, _, by kernel_rfl, rfl, rfl, rfl, by kernel_rfl⟩, ⟨_, _, _, Tryd.underlying123⟩, by kernel_rfl⟩
theorem tok124 : Wk.TOk Tryd.prog 124 ⟨.arr 9 5, 9, 9, [(Go.Value.int Go.IntKind.u8 0), (Go.Value.int Go.IntKind.u8 0), (Go.Value.int Go.IntKind.u8 0), (Go.Value.int Go.IntKind.u8 0), (Go.Value.int Go.IntKind.u8 0), (Go.Value.int Go.IntKind.u8 0), (Go.Value.int Go.IntKind.u8 0), (Go.Value.int Go.IntKind.u8 0), (Go.Value.int Go.IntKind.u8 0)]⟩ := ⟨⟨Tryd.t124, _, by kernel_rfl, rfl, rfl, rfl, by kernel_rfl⟩, Tryd.underlying124, by kernel_rfl⟩
theorem tok125 : Wk.TOk Tryd.prog 125 ⟨.int Go.IntKind.u64, 1, 8, [(Go.Value.int Go.IntKind.u64 0)]⟩ := ⟨⟨Tryd.t125, _, by kernel_rfl, rfl, rfl, rfl, by kernel_rfl⟩, Tryd.underlying125, by kernel_rfl⟩
theorem tok127 : Wk.TOk Tryd.prog 127 ⟨.func, 1, 8, [Go.Value.nilFunc]⟩ := ⟨⟨Tryd.t127, _, by kernel_rfl, rfl, rfl, rfl, by kernel_rfl⟩, ⟨_, _, _, Tryd.underlying127⟩, by kernel_rfl⟩
theorem tok128 : Wk.TOk Tryd.prog 128 ⟨.func, 1, 8, [Go.Value.nilFunc]⟩ := ⟨⟨Tryd.t128, _, by kernel_rfl, rfl, rfl, rfl, by kernel_rfl⟩, ⟨_, _, _, Tryd.underlying128⟩, by kernel_rfl⟩
theorem tok129 : Wk.TOk Tryd.prog 129 ⟨.func, 1, 8, [Go.Value.nilFunc]⟩ := ⟨⟨Tryd.t129, _, by kernel_rfl, rfl, rfl, rfl, by kernel_rfl⟩, ⟨_, _, _, Tryd.underlying129⟩, by kernel_rfl⟩
theorem tok130 : Wk.TOk Tryd.prog 130 ⟨.func, 1, 8, [Go.Value.nilFunc]⟩ := ⟨⟨Tryd.t130, _, by kernel_rfl, rfl, rfl, rfl, by kernel_rfl⟩, ⟨_, _, _, Tryd.underlying130⟩, by kernel_rfl⟩
theorem tok131 : Wk.TOk Tryd.prog 131 ⟨.func, 1, 8, [Go.Value.nilFunc]⟩ := ⟨⟨Tryd.t131, _, by kernel_rfl, rfl, rfl, rfl, by kernel_rfl⟩, ⟨_, _, _, Tryd.underlying131⟩, by kernel_rfl⟩
theorem tok132 : Wk.TOk Tryd.prog 132 ⟨.strct [(0, 1, 30)], 1, 8, [(Go.Value.int Go.IntKind.i64 0)]⟩ := ⟨⟨Tryd.t132, _, by kernel_rfl, rfl, rfl, rfl, by kernel_rfl⟩, ⟨_, Tryd.underlying132, by kernel_rfl, Tryd.stoodInHeld132, by kernel_rfl⟩, by kernel_rfl⟩
theorem tok133 : Wk.TOk Tryd.prog 133 ⟨.strct [(0, 1, 30)], 1, 8, [(Go.Value.int Go.IntKind.i64 0)]⟩ := ⟨⟨Tryd.t133, _, by kernel_rfl, rfl, rfl, rfl, by kernel_rfl⟩, ⟨_, Tryd.underlying133, by kernel_rfl, Tryd.stoodInHeld133, by kernel_rfl⟩, by kernel_rfl⟩
theorem tok134 : Wk.TOk Tryd.prog 134 ⟨.func, 1, 8, [Go.Value.nilFunc]⟩ := ⟨⟨Tryd.t134, _, by kernel_rfl, rfl, rfl, rfl, by kernel_rfl⟩, ⟨_, _, _, Tryd.underlying134⟩, by kernel_rfl⟩
theorem tok135 : Wk.TOk Tryd.prog 135 ⟨.func, 1, 8, [Go.Value.nilFunc]⟩ := ⟨⟨Tryd.t135, _, by kernel_rfl, rfl, rfl, rfl, by kernel_rfl⟩, ⟨_, _, _, Tryd.underlying135⟩, by kernel_rfl⟩
theorem tok136 : Wk.TOk Tryd.prog 136 ⟨.ptr 5, 1, 8, [(Go.Value.pointer none)]⟩ := ⟨⟨Tryd.t136, _, by kernel_rfl, rfl, rfl, rfl, by kernel_rfl⟩, Tryd.underlying136, by kernel_rfl⟩
theorem tok137 : Wk.TOk Tryd.prog 137 ⟨.func, 1, 8, [Go.Value.nilFunc]⟩ := ⟨⟨Tryd.t137, _, by kernel_rfl, rfl, rfl, rfl, by kernel_rfl⟩, ⟨_, _, _, Tryd.underlying137⟩, by kernel_rfl⟩
theorem tok138 : Wk.TOk Tryd.prog 138 ⟨.func, 1, 8, [Go.Value.nilFunc]⟩ := ⟨⟨Tryd.t138, _, by kernel_rfl, rfl, rfl, rfl, by kernel_rfl⟩, ⟨_, _, _, Tryd.underlying138⟩, by kernel_rfl⟩
theorem tok141 : Wk.TOk Tryd.prog 141 ⟨.func, 1, 8, [Go.Value.nilFunc]⟩ := ⟨⟨Tryd.t141, _, by kernel_rfl, rfl, rfl, rfl, by kernel_rfl⟩, ⟨_, _, _, Tryd.underlying141⟩, by kernel_rfl⟩
theorem tok142 : Wk.TOk Tryd.prog 142 ⟨.func, 1, 8, [Go.Value.nilFunc]⟩ := ⟨⟨Tryd.t142, _, by kernel_rfl, rfl, rfl, rfl, by kernel_rfl⟩, ⟨_, _, _, Tryd.underlying142⟩, by kernel_rfl⟩
theorem tok143 : Wk.TOk Tryd.prog 143 ⟨.func, 1, 8, [Go.Value.nilFunc]⟩ := ⟨⟨Tryd.t143, _, by kernel_rfl, rfl, rfl, rfl, by kernel_rfl⟩, ⟨_, _, _, Tryd.underlying143⟩, by kernel_rfl⟩
theorem tok144 : Wk.TOk Tryd.prog 144 ⟨.func, 1, 8, [Go.Value.nilFunc]⟩ := ⟨⟨Tryd.t144, _, by kernel_rfl, rfl, rfl, rfl, by kernel_rfl⟩, ⟨_, _, _, Tryd.underlying144⟩, by kernel_rfl⟩
theorem tok145 : Wk.TOk Tryd.prog 145 ⟨.func, 1, 8, [Go.Value.nilFunc]⟩ := ⟨⟨Tryd.t145, _, by kernel_rfl, rfl, rfl, rfl, by kernel_rfl⟩, ⟨_, _, _, Tryd.underlying145⟩, by kernel_rfl⟩
theorem tok148 : Wk.TOk Tryd.prog 148 ⟨.arr 0 16, 0, 0, []⟩ := ⟨⟨Tryd.t148, _, by kernel_rfl, rfl, rfl, rfl, by kernel_rfl⟩, Tryd.underlying148, by kernel_rfl⟩
theorem tok151 : Wk.TOk Tryd.prog 151 ⟨.int Go.IntKind.u32, 1, 4, [(Go.Value.int Go.IntKind.u32 0)]⟩ := ⟨⟨Tryd.t151, _, by kernel_rfl, rfl, rfl, rfl, by kernel_rfl⟩, Tryd.underlying151, by kernel_rfl⟩
theorem tok152 : Wk.TOk Tryd.prog 152 ⟨.int Go.IntKind.u8, 1, 1, [(Go.Value.int Go.IntKind.u8 0)]⟩ := ⟨⟨Tryd.t152, _, by kernel_rfl, rfl, rfl, rfl, by kernel_rfl⟩, Tryd.underlying152, by kernel_rfl⟩
theorem tok153 : Wk.TOk Tryd.prog 153 ⟨.int Go.IntKind.u8, 1, 1, [(Go.Value.int Go.IntKind.u8 0)]⟩ := ⟨⟨Tryd.t153, _, by kernel_rfl, rfl, rfl, rfl, by kernel_rfl⟩, Tryd.underlying153, by kernel_rfl⟩
theorem tok154 : Wk.TOk Tryd.prog 154 ⟨.func, 1, 8, [Go.Value.nilFunc]⟩ := ⟨⟨Tryd.t154, _, by kernel_rfl, rfl, rfl, rfl, by kernel_rfl⟩, ⟨_, _, _, Tryd.underlying154⟩, by kernel_rfl⟩
theorem tok155 : Wk.TOk Tryd.prog 155 ⟨.int Go.IntKind.i32, 1, 4, [(Go.Value.int Go.IntKind.i32 0)]⟩ := ⟨⟨Tryd.t155, _, by kernel_rfl, rfl, rfl, rfl, by kernel_rfl⟩, Tryd.underlying155, by kernel_rfl⟩
theorem tok156 : Wk.TOk Tryd.prog 156 ⟨.int Go.IntKind.i32, 1, 4, [(Go.Value.int Go.IntKind.i32 0)]⟩ := ⟨⟨Tryd.t156, _, by kernel_rfl, rfl, rfl, rfl, by kernel_rfl⟩, Tryd.underlying156, by kernel_rfl⟩
theorem tok159 : Wk.TOk Tryd.prog 159 ⟨.func, 1, 8, [Go.Value.nilFunc]⟩ := ⟨⟨Tryd.t159, _, by kernel_rfl, rfl, rfl, rfl, by kernel_rfl⟩, ⟨_, _, _, Tryd.underlying159⟩, by kernel_rfl⟩
theorem tok160 : Wk.TOk Tryd.prog 160 ⟨.func, 1, 8, [Go.Value.nilFunc]⟩ := ⟨⟨Tryd.t160, _, by kernel_rfl, rfl, rfl, rfl, by kernel_rfl⟩, ⟨_, _, _, Tryd.underlying160⟩, by kernel_rfl⟩
theorem tok161 : Wk.TOk Tryd.prog 161 ⟨.func, 1, 8, [Go.Value.nilFunc]⟩ := ⟨⟨Tryd.t161, _, by kernel_rfl, rfl, rfl, rfl, by kernel_rfl⟩, ⟨_, _, _, Tryd.underlying161⟩, by kernel_rfl⟩
theorem tok162 : Wk.TOk Tryd.prog 162 ⟨.ptr 171, 1, 8, [(Go.Value.pointer none)]⟩ := ⟨⟨Tryd.t162, _, by kernel_rfl, rfl, rfl, rfl, by kernel_rfl⟩, Tryd.underlying162, by kernel_rfl⟩
theorem tok163 : Wk.TOk Tryd.prog 163 ⟨.func, 1, 8, [Go.Value.nilFunc]⟩ := ⟨⟨Tryd.t163, _, by kernel_rfl, rfl, rfl, rfl, by kernel_rfl⟩, ⟨_, _, _, Tryd.underlying163⟩, by kernel_rfl⟩
theorem tok164 : Wk.TOk Tryd.prog 164 ⟨.func, 1, 8, [Go.Value.nilFunc]⟩ := ⟨⟨Tryd.t164, _, by kernel_rfl, rfl, rfl, rfl, by kernel_rfl⟩, ⟨_, _, _, Tryd.underlying164⟩, by kernel_rfl⟩
theorem tok165 : Wk.TOk Tryd.prog 165 ⟨.func, 1, 8, [Go.Value.nilFunc]⟩ := ⟨⟨Tryd.t165, _, by kernel_rfl, rfl, rfl, rfl, by kernel_rfl⟩, ⟨_, _, _, Tryd.underlying165⟩, by kernel_rfl⟩
theorem tok166 : Wk.TOk Tryd.prog 166 ⟨.ptr 177, 1, 8, [(Go.Value.pointer none)]⟩ := ⟨⟨Tryd.t166, _, by kernel_rfl, rfl, rfl, rfl, by kernel_rfl⟩, Tryd.underlying166, by kernel_rfl⟩
theorem tok167 : Wk.TOk Tryd.prog 167 ⟨.strct [(0, 1, 166)], 1, 8, [(Go.Value.pointer none)]⟩ := ⟨⟨Tryd.t167, _, by kernel_rfl, rfl, rfl, rfl, by kernel_rfl⟩, ⟨_, Tryd.underlying167, by kernel_rfl, Tryd.stoodInHeld167, by kernel_rfl⟩, by kernel_rfl⟩
theorem tok168 : Wk.TOk Tryd.prog 168 ⟨.strct [(0, 1, 166)], 1, 8, [(Go.Value.pointer none)]⟩ := ⟨⟨Tryd.t168, _, by kernel_rfl, rfl, rfl, rfl, by kernel_rfl⟩, ⟨_, Tryd.underlying168, by kernel_rfl, Tryd.stoodInHeld168, by kernel_rfl⟩, by kernel_rfl⟩
theorem tok169 : Wk.TOk Tryd.prog 169 ⟨.func, 1, 8, [Go.Value.nilFunc]⟩ := ⟨⟨Tryd.t169, _, by kernel_rfl, rfl, rfl, rfl, by kernel_rfl⟩, ⟨_, _, _, Tryd.underlying169⟩, by kernel_rfl⟩
theorem tok170 : Wk.TOk Tryd.prog 170 ⟨.strct [(0, 1, 168), (1, 1, 168)], 2, 16, [(Go.Value.pointer none), (Go.Value.pointer none)]⟩ := ⟨⟨Tryd.t170, _, by kernel_rfl, rfl, rfl, rfl, by kernel_rfl⟩, ⟨_, Tryd.underlying170, by kernel_rfl, Tryd.stoodInHeld170, by kernel_rfl⟩, by kernel_rfl⟩
theorem tok171 : Wk.TOk Tryd.prog 171 ⟨.strct [(0, 1, 168), (1, 1, 168)], 2, 16, [(Go.Value.pointer none), (Go.Value.pointer none)]⟩ := ⟨⟨Tryd.t171, _, by kernel_rfl, rfl, rfl, rfl, by kernel_rfl⟩, ⟨_, Tryd.underlying171, by kernel_rfl, Tryd.stoodInHeld171, by kernel_rfl⟩, by kernel_rfl⟩
theorem tok172 : Wk.TOk Tryd.prog 172 ⟨.func, 1, 8, [Go.Value.nilFunc]⟩ := ⟨⟨Tryd.t172, _, by kernel_rfl, rfl, rfl, rfl, by kernel_rfl⟩, ⟨_, _, _, Tryd.underlying172⟩, by kernel_rfl⟩
theorem tok173 : Wk.TOk Tryd.prog 173 ⟨.func, 1, 8, [Go.Value.nilFunc]⟩ := ⟨⟨Tryd.t173, _, by kernel_rfl, rfl, rfl, rfl, by kernel_rfl⟩, ⟨_, _, _, Tryd.underlying173⟩, by kernel_rfl⟩
theorem tok174 : Wk.TOk Tryd.prog 174 ⟨.arr 8 151, 8, 32, [(Go.Value.int Go.IntKind.u32 0), (Go.Value.int Go.IntKind.u32 0), (Go.Value.int Go.IntKind.u32 0), (Go.Value.int Go.IntKind.u32 0), (Go.Value.int Go.IntKind.u32 0), (Go.Value.int Go.IntKind.u32 0), (Go.Value.int Go.IntKind.u32 0), (Go.Value.int Go.IntKind.u32 0)]⟩ := ⟨⟨Tryd.t174, _, by kernel_rfl, rfl, rfl, rfl, by kernel_rfl⟩, Tryd.underlying174, by kernel_rfl⟩
theorem tok175 : Wk.TOk Tryd.prog 175 ⟨.arr 64 5, 64, 64, [(Go.Value.int Go.IntKind.u8 0), (Go.Value.int Go.IntKind.u8 0), (Go.Value.int Go.IntKind.u8 0), (Go.Value.int Go.IntKind.u8 0), (Go.Value.int Go.IntKind.u8 0), (Go.Value.int Go.IntKind.u8 0), (Go.Value.int Go.IntKind.u8 0), (Go.Value.int Go.IntKind.u8 0), (Go.Value.int Go.IntKind.u8 0), (Go.Value.int Go.IntKind.u8 0), (Go.Value.int Go.IntKind.u8 0), (Go.Value.int Go.IntKind.u8 0), (Go.Value.int Go.IntKind.u8 0), (Go.Value.int Go.IntKind.u8 0), (Go.Value.int Go.IntKind.u8 0), (Go.Value.int Go.IntKind.u8 0), (Go.Value.int Go.IntKind.u8 0), (Go.Value.int Go.IntKind.u8 0), (Go.Value.int Go.IntKind.u8 0), (Go.Value.int Go.IntKind.u8 0), (Go.Value.int Go.IntKind.u8 0), (Go.Value.int Go.IntKind.u8 0), (Go.Value.int Go.IntKind.u8 0), (Go.Value.int Go.IntKind.u8 0), (Go.Value.int Go.IntKind.u8 0), (Go.Value.int Go.IntKind.u8 0), (Go.Value.int Go.IntKind.u8 0), (Go.Value.int Go.IntKind.u8 0), (Go.Value.int Go.IntKind.u8 0), (Go.Value.int Go.IntKind.u8 0), (Go.Value.int Go.IntKind.u8 0), (Go.Value.int Go.IntKind.u8 0), (Go.Value.int Go.IntKind.u8 0), (Go.Value.int Go.IntKind.u8 0), (Go.Value.int Go.IntKind.u8 0), (Go.Value.int Go.IntKind.u8 0), (Go.Value.int Go.IntKind.u8 0), (Go.Value.int Go.IntKind.u8 0), (Go.Value.int Go.IntKind.u8 0), (Go.Value.int Go.IntKind.u8 0), (Go.Value.int Go.IntKind.u8 0), (Go.Value.int Go.IntKind.u8 0), (Go.Value.int Go.IntKind.u8 0), (Go.Value.int Go.IntKind.u8 0), (Go.Value.int Go.IntKind.u8 0), (Go.Value.int Go.IntKind.u8 0), (Go.Value.int Go.IntKind.u8 0), (Go.Value.int Go.IntKind.u8 0), (Go.Value.int Go.IntKind.u8 0), (Go.Value.int Go.IntKind.u8 0), (Go.Value.int Go.IntKind.u8 0), (Go.Value.int Go.IntKind.u8 0), (Go.Value.int Go.IntKind.u8 0), (Go.Value.int Go.IntKind.u8 0), (Go.Value.int Go.IntKind.u8 0), (Go.Value.int Go.IntKind.u8 0), (Go.Value.int Go.IntKind.u8 0), (Go.Value.int Go.IntKind.u8 0), (Go.Value.int Go.IntKind.u8 0), (Go.Value.int Go.IntKind.u8 0), (Go.Value.int Go.IntKind.u8 0), (Go.Value.int Go.IntKind.u8 0), (Go.Value.int Go.IntKind.u8 0), (Go.Value.int Go.IntKind.u8 0)]⟩ := ⟨⟨Tryd.t175, _, by kernel_rfl, rfl, rfl, rfl, by kernel_rfl⟩, Tryd.underlying175, by kernel_rfl⟩
theorem tok178 : Wk.TOk Tryd.prog 178 ⟨.arr 16 151, 16, 64, [(Go.Value.int Go.IntKind.u32 0), (Go.Value.int Go.IntKind.u32 0), (Go.Value.int Go.IntKind.u32 0), (Go.Value.int Go.IntKind.u32 0), (Go.Value.int Go.IntKind.u32 0), (Go.Value.int Go.IntKind.u32 0), (Go.Value.int Go.IntKind.u32 0), (Go.Value.int Go.IntKind.u32 0), (Go.Value.int Go.IntKind.u32 0), (Go.Value.int Go.IntKind.u32 0), (Go.Value.int Go.IntKind.u32 0), (Go.Value.int Go.IntKind.u32 0), (Go.Value.int Go.IntKind.u32 0), (Go.Value.int Go.IntKind.u32 0), (Go.Value.int Go.IntKind.u32 0), (Go.Value.int Go.IntKind.u32 0)]⟩ := ⟨⟨Tryd.t178, _, by kernel_rfl, rfl, rfl, rfl, by kernel_rfl⟩, Tryd.underlying178, by kernel_rfl⟩
theorem tok179 : Wk.TOk Tryd.prog 179 ⟨.arr 64 151, 64, 256, [(Go.Value.int Go.IntKind.u32 0), (Go.Value.int Go.IntKind.u32 0), (Go.Value.int Go.IntKind.u32 0), (Go.Value.int Go.IntKind.u32 0), (Go.Value.int Go.IntKind.u32 0), (Go.Value.int Go.IntKind.u32 0), (Go.Value.int Go.IntKind.u32 0), (Go.Value.int Go.IntKind.u32 0), (Go.Value.int Go.IntKind.u32 0), (Go.Value.int Go.IntKind.u32 0), (Go.Value.int Go.IntKind.u32 0), (Go.Value.int Go.IntKind.u32 0), (Go.Value.int Go.IntKind.u32 0), (Go.Value.int Go.IntKind.u32 0), (Go.Value.int Go.IntKind.u32 0), (Go.Value.int Go.IntKind.u32 0), (Go.Value.int Go.IntKind.u32 0), (Go.Value.int Go.IntKind.u32 0), (Go.Value.int Go.IntKind.u32 0), (Go.Value.int Go.IntKind.u32 0), (Go.Value.int Go.IntKind.u32 0), (Go.Value.int Go.IntKind.u32 0), (Go.Value.int Go.IntKind.u32 0), (Go.Value.int Go.IntKind.u32 0), (Go.Value.int Go.IntKind.u32 0), (Go.Value.int Go.IntKind.u32 0), (Go.Value.int Go.IntKind.u32 0), (Go.Value.int Go.IntKind.u32 0), (Go.Value.int Go.IntKind.u32 0), (Go.Value.int Go.IntKind.u32 0), (Go.Value.int Go.IntKind.u32 0), (Go.Value.int Go.IntKind.u32 0), (Go.Value.int Go.IntKind.u32 0), (Go.Value.int Go.IntKind.u32 0), (Go.Value.int Go.IntKind.u32 0), (Go.Value.int Go.IntKind.u32 0), (Go.Value.int Go.IntKind.u32 0), (Go.Value.int Go.IntKind.u32 0), (Go.Value.int Go.IntKind.u32 0), (Go.Value.int Go.IntKind.u32 0), (Go.Value.int Go.IntKind.u32 0), (Go.Value.int Go.IntKind.u32 0), (Go.Value.int Go.IntKind.u32 0), (Go.Value.int Go.IntKind.u32 0), (Go.Value.int Go.IntKind.u32 0), (Go.Value.int Go.IntKind.u32 0), (Go.Value.int Go.IntKind.u32 0), (Go.Value.int Go.IntKind.u32 0), (Go.Value.int Go.IntKind.u32 0), (Go.Value.int Go.IntKind.u32 0), (Go.Value.int Go.IntKind.u32 0), (Go.Value.int Go.IntKind.u32 0), (Go.Value.int Go.IntKind.u32 0), (Go.Value.int Go.IntKind.u32 0), (Go.Value.int Go.IntKind.u32 0), (Go.Value.int Go.IntKind.u32 0), (Go.Value.int Go.IntKind.u32 0), (Go.Value.int Go.IntKind.u32 0), (Go.Value.int Go.IntKind.u32 0), (Go.Value.int Go.IntKind.u32 0), (Go.Value.int Go.IntKind.u32 0), (Go.Value.int Go.IntKind.u32 0), (Go.Value.int Go.IntKind.u32 0), (Go.Value.int Go.IntKind.u32 0)]⟩ := ⟨⟨Tryd.t179, _, by kernel_rfl, rfl, rfl, rfl, by kernel_rfl⟩, Tryd.underlying179, by kernel_rfl⟩
theorem tok180 : Wk.TOk Tryd.prog 180 ⟨.func, 1, 8, [Go.Value.nilFunc]⟩ := ⟨⟨Tryd.t180, _, by kernel_rfl, rfl, rfl, rfl, by kernel_rfl⟩, ⟨_, _, _, Tryd.underlying180⟩, by kernel_rfl⟩
theorem okT : Wk.Ok Tryd.prog TT := Wk.ok_of TTl ⟨tok1, tok2, tok3, tok4, tok5, tok6, tok7, tok8, tok9, tok10, tok11, tok12, tok15, tok16, tok17, tok20, tok21, tok22, tok23, tok24, tok25, tok26, tok27, tok28, tok29, tok30, tok32, tok34, tok35, tok36, tok37, tok38, tok39, tok40, tok42, tok43, tok44, tok45, tok46, tok47, tok48, tok50, tok51, tok52, tok53, tok54, tok55, tok56, tok57, tok58, tok59, tok60, tok61, tok62, tok63, tok64, tok65, tok66, tok67, tok68, tok69, tok70, tok72, tok73, tok74, tok75, tok76, tok77, tok78, tok79, tok80, tok82, tok83, tok84, tok85, tok86, tok87, tok88, tok89, tok90, tok91, tok92, tok93, tok94, tok95, tok96, tok97, tok98, tok99, tok100, tok102, tok104, tok105, tok106, tok107, tok108, tok110, tok111, tok112, tok114, tok115, tok116, tok117, tok118, tok119, tok121, tok122, tok123, tok124, tok125, tok127, tok128, tok129, tok130, tok131, tok132, tok133, tok134, tok135, tok136, tok137, tok138, tok141, tok142, tok143, tok144, tok145, tok148, tok151, tok152, tok153, tok154, tok155, tok156, tok159, tok160, tok161, tok162, tok163, tok164, tok165, tok166, tok167, tok168, tok169, tok170, tok171, tok172, tok173, tok174, tok175, tok178, tok179, tok180, trivial⟩ (by kernel_rfl) (by kernel_rfl)
theorem fok7 : Wk.FOk Tryd.prog 7 := ⟨Tryd.f7, Tryd.func7, by kernel_rfl, by kernel_rfl⟩
theorem fok11 : Wk.FOk Tryd.prog 11 := ⟨Tryd.f11, Tryd.func11, by kernel_rfl, by kernel_rfl⟩
theorem fok12 : Wk.FOk Tryd.prog 12 := ⟨Tryd.f12, Tryd.func12, by kernel_rfl, by kernel_rfl⟩
theorem fok13 : Wk.FOk Tryd.prog 13 := ⟨Tryd.f13, Tryd.func13, by kernel_rfl, by kernel_rfl⟩
theorem fok14 : Wk.FOk Tryd.prog 14 := ⟨Tryd.f14, Tryd.func14, by kernel_rfl, by kernel_rfl⟩
theorem fok17 : Wk.FOk Tryd.prog 17 := ⟨Tryd.f17, Tryd.func17, by kernel_rfl, by kernel_rfl⟩
theorem fok18 : Wk.FOk Tryd.prog 18 := ⟨Tryd.f18, Tryd.func18, by kernel_rfl, by kernel_rfl⟩
theorem fok19 : Wk.FOk Tryd.prog 19 := ⟨Tryd.f19, Tryd.func19, by kernel_rfl, by kernel_rfl⟩
theorem fok20 : Wk.FOk Tryd.prog 20 := ⟨Tryd.f20, Tryd.func20, by kernel_rfl, by kernel_rfl⟩
theorem fok22 : Wk.FOk Tryd.prog 22 := ⟨Tryd.f22, Tryd.func22, by kernel_rfl, by kernel_rfl⟩
theorem fok23 : Wk.FOk Tryd.prog 23 := ⟨Tryd.f23, Tryd.func23, by kernel_rfl, by kernel_rfl⟩
theorem fok24 : Wk.FOk Tryd.prog 24 := ⟨Tryd.f24, Tryd.func24, by kernel_rfl, by kernel_rfl⟩
theorem fok25 : Wk.FOk Tryd.prog 25 := ⟨Tryd.f25, Tryd.func25, by kernel_rfl, by kernel_rfl⟩
theorem fok26 : Wk.FOk Tryd.prog 26 := ⟨Tryd.f26, Tryd.func26, by kernel_rfl, by kernel_rfl⟩
theorem fok27 : Wk.FOk Tryd.prog 27 := ⟨Tryd.f27, Tryd.func27, by kernel_rfl, by kernel_rfl⟩
theorem fok28 : Wk.FOk Tryd.prog 28 := ⟨Tryd.f28, Tryd.func28, by kernel_rfl, by kernel_rfl⟩
theorem fok29 : Wk.FOk Tryd.prog 29 := ⟨Tryd.f29, Tryd.func29, by kernel_rfl, by kernel_rfl⟩
theorem fok30 : Wk.FOk Tryd.prog 30 := ⟨Tryd.f30, Tryd.func30, by kernel_rfl, by kernel_rfl⟩
theorem fok31 : Wk.FOk Tryd.prog 31 := ⟨Tryd.f31, Tryd.func31, by kernel_rfl, by kernel_rfl⟩
theorem fok32 : Wk.FOk Tryd.prog 32 := ⟨Tryd.f32, Tryd.func32, by kernel_rfl, by kernel_rfl⟩
theorem fok33 : Wk.FOk Tryd.prog 33 := ⟨Tryd.f33, Tryd.func33, by kernel_rfl, by kernel_rfl⟩
theorem fok34 : Wk.FOk Tryd.prog 34 := ⟨Tryd.f34, Tryd.func34, by kernel_rfl, by kernel_rfl⟩
theorem fok35 : Wk.FOk Tryd.prog 35 := ⟨Tryd.f35, Tryd.func35, by kernel_rfl, by kernel_rfl⟩
theorem fok40 : Wk.FOk Tryd.prog 40 := ⟨Tryd.f40, Tryd.func40, by kernel_rfl, by kernel_rfl⟩
theorem fok41 : Wk.FOk Tryd.prog 41 := ⟨Tryd.f41, Tryd.func41, by kernel_rfl, by kernel_rfl⟩
theorem fok42 : Wk.FOk Tryd.prog 42 := ⟨Tryd.f42, Tryd.func42, by kernel_rfl, by kernel_rfl⟩
theorem fok43 : Wk.FOk Tryd.prog 43 := ⟨Tryd.f43, Tryd.func43, by kernel_rfl, by kernel_rfl⟩
theorem fok44 : Wk.FOk Tryd.prog 44 := ⟨Tryd.f44, Tryd.func44, by kernel_rfl, by kernel_rfl⟩
theorem fok45 : Wk.FOk Tryd.prog 45 := ⟨Tryd.f45, Tryd.func45, by kernel_rfl, by kernel_rfl⟩
theorem fok46 : Wk.FOk Tryd.prog 46 := ⟨Tryd.f46, Tryd.func46, by kernel_rfl, by kernel_rfl⟩
theorem fok47 : Wk.FOk Tryd.prog 47 := ⟨Tryd.f47, Tryd.func47, by kernel_rfl, by kernel_rfl⟩
theorem fok48 : Wk.FOk Tryd.prog 48 := ⟨Tryd.f48, Tryd.func48, by kernel_rfl, by kernel_rfl⟩
theorem fok49 : Wk.FOk Tryd.prog 49 := ⟨Tryd.f49, Tryd.func49, by kernel_rfl, by kernel_rfl⟩
theorem fok50 : Wk.FOk Tryd.prog 50 := ⟨Tryd.f50, Tryd.func50, by kernel_rfl, by kernel_rfl⟩
theorem fok51 : Wk.FOk Tryd.prog 51 := ⟨Tryd.f51, Tryd.func51, by kernel_rfl, by kernel_rfl⟩
theorem fok52 : Wk.FOk Tryd.prog 52 := ⟨Tryd.f52, Tryd.func52, by kernel_rfl, by kernel_rfl⟩
theorem fok53 : Wk.FOk Tryd.prog 53 := ⟨Tryd.f53, Tryd.func53, by kernel_rfl, by kernel_rfl⟩
theorem fok54 : Wk.FOk Tryd.prog 54 := ⟨Tryd.f54, Tryd.func54, by kernel_rfl, by kernel_rfl⟩
theorem fok55 : Wk.FOk Tryd.prog 55 := ⟨Tryd.f55, Tryd.func55, by kernel_rfl, by kernel_rfl⟩
theorem fok60 : Wk.FOk Tryd.prog 60 := ⟨Tryd.f60, Tryd.func60, by kernel_rfl, by kernel_rfl⟩
theorem fok61 : Wk.FOk Tryd.prog 61 := ⟨Tryd.f61, Tryd.func61, by kernel_rfl, by kernel_rfl⟩
theorem fok62 : Wk.FOk Tryd.prog 62 := ⟨Tryd.f62, Tryd.func62, by kernel_rfl, by kernel_rfl⟩
theorem fok63 : Wk.FOk Tryd.prog 63 := ⟨Tryd.f63, Tryd.func63, by kernel_rfl, by kernel_rfl⟩
theorem fok64 : Wk.FOk Tryd.prog 64 := ⟨Tryd.f64, Tryd.func64, by kernel_rfl, by kernel_rfl⟩
theorem fok65 : Wk.FOk Tryd.prog 65 := ⟨Tryd.f65, Tryd.func65, by kernel_rfl, by kernel_rfl⟩
theorem fok66 : Wk.FOk Tryd.prog 66 := ⟨Tryd.f66, Tryd.func66, by kernel_rfl, by kernel_rfl⟩
theorem fok67 : Wk.FOk Tryd.prog 67 := ⟨Tryd.f67, Tryd.func67, by kernel_rfl, by kernel_rfl⟩
theorem fok70 : Wk.FOk Tryd.prog 70 := ⟨Tryd.f70, Tryd.func70, by kernel_rfl, by kernel_rfl⟩
theorem fok71 : Wk.FOk Tryd.prog 71 := ⟨Tryd.f71, Tryd.func71, by kernel_rfl, by kernel_rfl⟩
theorem fok72 : Wk.FOk Tryd.prog 72 := ⟨Tryd.f72, Tryd.func72, by kernel_rfl, by kernel_rfl⟩
theorem fok73 : Wk.FOk Tryd.prog 73 := ⟨Tryd.f73, Tryd.func73, by kernel_rfl, by kernel_rfl⟩
theorem fok74 : Wk.FOk Tryd.prog 74 := ⟨Tryd.f74, Tryd.func74, by kernel_rfl, by kernel_rfl⟩
theorem fok77 : Wk.FOk Tryd.prog 77 := ⟨Tryd.f77, Tryd.func77, by kernel_rfl, by kernel_rfl⟩
theorem fok79 : Wk.FOk Tryd.prog 79 := ⟨Tryd.f79, Tryd.func79, by kernel_rfl, by kernel_rfl⟩
theorem fok80 : Wk.FOk Tryd.prog 80 := ⟨Tryd.f80, Tryd.func80, by kernel_rfl, by kernel_rfl⟩
theorem fok101 : Wk.FOk Tryd.prog 101 := ⟨Tryd.f101, Tryd.func101, by kernel_rfl, by kernel_rfl⟩
theorem fok102 : Wk.FOk Tryd.prog 102 := ⟨Tryd.f102, Tryd.func102, by kernel_rfl, by kernel_rfl⟩
theorem fok103 : Wk.FOk Tryd.prog 103 := ⟨Tryd.f103, Tryd.func103, by kernel_rfl, by kernel_rfl⟩
theorem fok104 : Wk.FOk Tryd.prog 104 := ⟨Tryd.f104, Tryd.func104, by kernel_rfl, by kernel_rfl⟩
end Go.Proofs.YthnlmmkhehphiaaDoor
