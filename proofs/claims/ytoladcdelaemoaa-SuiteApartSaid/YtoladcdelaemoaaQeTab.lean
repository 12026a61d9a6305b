/-
  The table of the types of this seat's program, for the walking layer: made by a program (mkseat.py).
-/
import Derived.Test.YtoladcdelaemoaaRows
import Derived.Test.YtoladcdelaemoaaQeGs
import Derived.KernelRfl
namespace Go.Proofs.Ytoladcdelaemoaa
open Go
def TTl : List (Option Wk.TI) := [
  none,
  some ⟨.func, 1, 8, [Go.Value.nilFunc]⟩,
  some ⟨.int Go.IntKind.i64, 1, 8, [(Go.Value.int Go.IntKind.i64 0)]⟩,
  some ⟨.int Go.IntKind.i64, 1, 8, [(Go.Value.int Go.IntKind.i64 0)]⟩,
  some ⟨.bool, 1, 1, [(Go.Value.bool false)]⟩,
  some ⟨.int Go.IntKind.u8, 1, 1, [(Go.Value.int Go.IntKind.u8 0)]⟩,
  some ⟨.int Go.IntKind.u8, 1, 1, [(Go.Value.int Go.IntKind.u8 0)]⟩,
  some ⟨.strct [(0, 1, 2), (1, 1, 3), (2, 1, 4), (3, 1, 6)], 4, 24, [(Go.Value.int Go.IntKind.i64 0), (Go.Value.int Go.IntKind.i64 0), (Go.Value.bool false), (Go.Value.int Go.IntKind.u8 0)]⟩,
  some ⟨.strct [(0, 1, 2), (1, 1, 3), (2, 1, 4), (3, 1, 6)], 4, 24, [(Go.Value.int Go.IntKind.i64 0), (Go.Value.int Go.IntKind.i64 0), (Go.Value.bool false), (Go.Value.int Go.IntKind.u8 0)]⟩,
  some ⟨.string, 1, 16, [(Go.Value.string { data := #[] })]⟩,
  some ⟨.string, 1, 16, [(Go.Value.string { data := #[] })]⟩,
  some ⟨.string, 1, 16, [(Go.Value.string { data := #[] })]⟩,
  some ⟨.int Go.IntKind.u64, 1, 8, [(Go.Value.int Go.IntKind.u64 0)]⟩,
  none,
  none,
  some ⟨.ptr 151, 1, 8, [(Go.Value.pointer none)]⟩,
  some ⟨.ptr 154, 1, 8, [(Go.Value.pointer none)]⟩,
  some ⟨.ptr 162, 1, 8, [(Go.Value.pointer none)]⟩,
  none,
  none,
  some ⟨.iface, 1, 16, [Go.Value.nilIface]⟩,
  some ⟨.int Go.IntKind.i32, 1, 4, [(Go.Value.int Go.IntKind.i32 0)]⟩,
  some ⟨.slice 9, 1, 24, [(Go.Value.slice none 0 0)]⟩,
  some ⟨.func, 1, 8, [Go.Value.nilFunc]⟩,
  some ⟨.func, 1, 8, [Go.Value.nilFunc]⟩,
  some ⟨.ptr 92, 1, 8, [(Go.Value.pointer none)]⟩,
  some ⟨.func, 1, 8, [Go.Value.nilFunc]⟩,
  some ⟨.slice 55, 1, 24, [(Go.Value.slice none 0 0)]⟩,
  none,
  some ⟨.func, 1, 8, [Go.Value.nilFunc]⟩,
  some ⟨.func, 1, 8, [Go.Value.nilFunc]⟩,
  some ⟨.int Go.IntKind.i64, 1, 8, [(Go.Value.int Go.IntKind.i64 0)]⟩,
  none,
  some ⟨.func, 1, 8, [Go.Value.nilFunc]⟩,
  some ⟨.func, 1, 8, [Go.Value.nilFunc]⟩,
  none,
  some ⟨.func, 1, 8, [Go.Value.nilFunc]⟩,
  some ⟨.func, 1, 8, [Go.Value.nilFunc]⟩,
  some ⟨.ptr 76, 1, 8, [(Go.Value.pointer none)]⟩,
  none,
  some ⟨.func, 1, 8, [Go.Value.nilFunc]⟩,
  some ⟨.func, 1, 8, [Go.Value.nilFunc]⟩,
  some ⟨.func, 1, 8, [Go.Value.nilFunc]⟩,
  some ⟨.func, 1, 8, [Go.Value.nilFunc]⟩,
  some ⟨.func, 1, 8, [Go.Value.nilFunc]⟩,
  some ⟨.func, 1, 8, [Go.Value.nilFunc]⟩,
  some ⟨.func, 1, 8, [Go.Value.nilFunc]⟩,
  some ⟨.func, 1, 8, [Go.Value.nilFunc]⟩,
  some ⟨.func, 1, 8, [Go.Value.nilFunc]⟩,
  some ⟨.func, 1, 8, [Go.Value.nilFunc]⟩,
  some ⟨.func, 1, 8, [Go.Value.nilFunc]⟩,
  some ⟨.func, 1, 8, [Go.Value.nilFunc]⟩,
  some ⟨.func, 1, 8, [Go.Value.nilFunc]⟩,
  some ⟨.slice 3, 1, 24, [(Go.Value.slice none 0 0)]⟩,
  some ⟨.strct [(0, 1, 5), (1, 1, 3), (2, 1, 3), (3, 1, 3), (4, 1, 3), (5, 1, 9), (6, 1, 53)], 7, 80, [(Go.Value.int Go.IntKind.u8 0), (Go.Value.int Go.IntKind.i64 0), (Go.Value.int Go.IntKind.i64 0), (Go.Value.int Go.IntKind.i64 0), (Go.Value.int Go.IntKind.i64 0), (Go.Value.string { data := #[] }), (Go.Value.slice none 0 0)]⟩,
  some ⟨.strct [(0, 1, 5), (1, 1, 3), (2, 1, 3), (3, 1, 3), (4, 1, 3), (5, 1, 9), (6, 1, 53)], 7, 80, [(Go.Value.int Go.IntKind.u8 0), (Go.Value.int Go.IntKind.i64 0), (Go.Value.int Go.IntKind.i64 0), (Go.Value.int Go.IntKind.i64 0), (Go.Value.int Go.IntKind.i64 0), (Go.Value.string { data := #[] }), (Go.Value.slice none 0 0)]⟩,
  some ⟨.func, 1, 8, [Go.Value.nilFunc]⟩,
  some ⟨.ptr 60, 1, 8, [(Go.Value.pointer none)]⟩,
  some ⟨.map 9 97, 1, 8, [(Go.Value.map none)]⟩,
  some ⟨.strct [(0, 1, 27), (1, 1, 22), (2, 1, 58)], 3, 56, [(Go.Value.slice none 0 0), (Go.Value.slice none 0 0), (Go.Value.map none)]⟩,
  some ⟨.strct [(0, 1, 27), (1, 1, 22), (2, 1, 58)], 3, 56, [(Go.Value.slice none 0 0), (Go.Value.slice none 0 0), (Go.Value.map none)]⟩,
  some ⟨.func, 1, 8, [Go.Value.nilFunc]⟩,
  some ⟨.func, 1, 8, [Go.Value.nilFunc]⟩,
  some ⟨.func, 1, 8, [Go.Value.nilFunc]⟩,
  none,
  some ⟨.func, 1, 8, [Go.Value.nilFunc]⟩,
  some ⟨.slice 5, 1, 24, [(Go.Value.slice none 0 0)]⟩,
  some ⟨.int Go.IntKind.u64, 1, 8, [(Go.Value.int Go.IntKind.u64 0)]⟩,
  some ⟨.func, 1, 8, [Go.Value.nilFunc]⟩,
  none,
  some ⟨.func, 1, 8, [Go.Value.nilFunc]⟩,
  some ⟨.strct [], 0, 0, []⟩,
  some ⟨.strct [], 0, 0, []⟩,
  some ⟨.iface, 1, 16, [Go.Value.nilIface]⟩,
  some ⟨.iface, 1, 16, [Go.Value.nilIface]⟩,
  some ⟨.strct [(0, 1, 74)], 1, 16, [Go.Value.nilIface]⟩,
  some ⟨.strct [(0, 1, 74)], 1, 16, [Go.Value.nilIface]⟩,
  some ⟨.strct [(0, 1, 9)], 1, 16, [(Go.Value.string { data := #[] })]⟩,
  some ⟨.strct [(0, 1, 9)], 1, 16, [(Go.Value.string { data := #[] })]⟩,
  some ⟨.func, 1, 8, [Go.Value.nilFunc]⟩,
  none,
  none,
  some ⟨.func, 1, 8, [Go.Value.nilFunc]⟩,
  some ⟨.func, 1, 8, [Go.Value.nilFunc]⟩,
  some ⟨.func, 1, 8, [Go.Value.nilFunc]⟩,
  none,
  some ⟨.func, 1, 8, [Go.Value.nilFunc]⟩,
  some ⟨.func, 1, 8, [Go.Value.nilFunc]⟩,
  some ⟨.func, 1, 8, [Go.Value.nilFunc]⟩,
  some ⟨.int Go.IntKind.u64, 1, 8, [(Go.Value.int Go.IntKind.u64 0)]⟩,
  some ⟨.map 9 100, 1, 8, [(Go.Value.map none)]⟩,
  some ⟨.strct [(0, 1, 90)], 1, 8, [(Go.Value.map none)]⟩,
  some ⟨.strct [(0, 1, 90)], 1, 8, [(Go.Value.map none)]⟩,
  some ⟨.func, 1, 8, [Go.Value.nilFunc]⟩,
  none,
  some ⟨.func, 1, 8, [Go.Value.nilFunc]⟩,
  some ⟨.strct [(0, 1, 3)], 1, 8, [(Go.Value.int Go.IntKind.i64 0)]⟩,
  some ⟨.strct [(0, 1, 3)], 1, 8, [(Go.Value.int Go.IntKind.i64 0)]⟩,
  none,
  some ⟨.strct [(0, 1, 22), (1, 1, 4)], 2, 32, [(Go.Value.slice none 0 0), (Go.Value.bool false)]⟩,
  some ⟨.strct [(0, 1, 22), (1, 1, 4)], 2, 32, [(Go.Value.slice none 0 0), (Go.Value.bool false)]⟩,
  none,
  some ⟨.strct [(0, 1, 3), (1, 1, 31)], 2, 16, [(Go.Value.int Go.IntKind.i64 0), (Go.Value.int Go.IntKind.i64 0)]⟩,
  some ⟨.strct [(0, 1, 3), (1, 1, 31)], 2, 16, [(Go.Value.int Go.IntKind.i64 0), (Go.Value.int Go.IntKind.i64 0)]⟩,
  none,
  some ⟨.ptr 107, 1, 8, [(Go.Value.pointer none)]⟩,
  some ⟨.strct [(0, 1, 22), (1, 1, 22)], 2, 48, [(Go.Value.slice none 0 0), (Go.Value.slice none 0 0)]⟩,
  some ⟨.strct [(0, 1, 22), (1, 1, 22)], 2, 48, [(Go.Value.slice none 0 0), (Go.Value.slice none 0 0)]⟩,
  some ⟨.func, 1, 8, [Go.Value.nilFunc]⟩,
  some ⟨.func, 1, 8, [Go.Value.nilFunc]⟩,
  some ⟨.func, 1, 8, [Go.Value.nilFunc]⟩,
  some ⟨.func, 1, 8, [Go.Value.nilFunc]⟩,
  some ⟨.func, 1, 8, [Go.Value.nilFunc]⟩,
  some ⟨.func, 1, 8, [Go.Value.nilFunc]⟩,
  some ⟨.func, 1, 8, [Go.Value.nilFunc]⟩,
  some ⟨.ptr 117, 1, 8, [(Go.Value.pointer none)]⟩,
  some ⟨.strct [(0, 1, 115), (1, 1, 66)], 2, 32, [(Go.Value.pointer none), (Go.Value.slice none 0 0)]⟩,
  some ⟨.strct [(0, 1, 115), (1, 1, 66)], 2, 32, [(Go.Value.pointer none), (Go.Value.slice none 0 0)]⟩,
  some ⟨.iface, 1, 16, [Go.Value.nilIface]⟩,
  some ⟨.iface, 1, 16, [Go.Value.nilIface]⟩,
  none,
  some ⟨.func, 1, 8, [Go.Value.nilFunc]⟩,
  some ⟨.func, 1, 8, [Go.Value.nilFunc]⟩,
  some ⟨.func, 1, 8, [Go.Value.nilFunc]⟩,
  some ⟨.arr 9 5, 9, 9, [(Go.Value.int Go.IntKind.u8 0), (Go.Value.int Go.IntKind.u8 0), (Go.Value.int Go.IntKind.u8 0), (Go.Value.int Go.IntKind.u8 0), (Go.Value.int Go.IntKind.u8 0), (Go.Value.int Go.IntKind.u8 0), (Go.Value.int Go.IntKind.u8 0), (Go.Value.int Go.IntKind.u8 0), (Go.Value.int Go.IntKind.u8 0)]⟩,
  some ⟨.func, 1, 8, [Go.Value.nilFunc]⟩,
  some ⟨.func, 1, 8, [Go.Value.nilFunc]⟩,
  some ⟨.strct [(0, 1, 3), (1, 1, 4), (2, 1, 4), (3, 1, 4), (4, 1, 126)], 5, 24, [(Go.Value.int Go.IntKind.i64 0), (Go.Value.bool false), (Go.Value.bool false), (Go.Value.bool false), Go.Value.nilFunc]⟩,
  some ⟨.strct [(0, 1, 3), (1, 1, 4), (2, 1, 4), (3, 1, 4), (4, 1, 126)], 5, 24, [(Go.Value.int Go.IntKind.i64 0), (Go.Value.bool false), (Go.Value.bool false), (Go.Value.bool false), Go.Value.nilFunc]⟩,
  none,
  some ⟨.map 5 128, 1, 8, [(Go.Value.map none)]⟩,
  some ⟨.func, 1, 8, [Go.Value.nilFunc]⟩,
  some ⟨.func, 1, 8, [Go.Value.nilFunc]⟩,
  none,
  some ⟨.func, 1, 8, [Go.Value.nilFunc]⟩,
  some ⟨.strct [(0, 1, 31)], 1, 8, [(Go.Value.int Go.IntKind.i64 0)]⟩,
  some ⟨.strct [(0, 1, 31)], 1, 8, [(Go.Value.int Go.IntKind.i64 0)]⟩,
  none,
  none,
  some ⟨.func, 1, 8, [Go.Value.nilFunc]⟩,
  some ⟨.func, 1, 8, [Go.Value.nilFunc]⟩,
  some ⟨.ptr 5, 1, 8, [(Go.Value.pointer none)]⟩,
  some ⟨.func, 1, 8, [Go.Value.nilFunc]⟩,
  some ⟨.func, 1, 8, [Go.Value.nilFunc]⟩,
  some ⟨.func, 1, 8, [Go.Value.nilFunc]⟩,
  some ⟨.func, 1, 8, [Go.Value.nilFunc]⟩,
  none,
  some ⟨.func, 1, 8, [Go.Value.nilFunc]⟩,
  some ⟨.func, 1, 8, [Go.Value.nilFunc]⟩,
  some ⟨.func, 1, 8, [Go.Value.nilFunc]⟩,
  none,
  none,
  some ⟨.arr 0 16, 0, 0, []⟩,
  none,
  none,
  some ⟨.int Go.IntKind.u32, 1, 4, [(Go.Value.int Go.IntKind.u32 0)]⟩,
  some ⟨.int Go.IntKind.u8, 1, 1, [(Go.Value.int Go.IntKind.u8 0)]⟩,
  some ⟨.int Go.IntKind.u8, 1, 1, [(Go.Value.int Go.IntKind.u8 0)]⟩,
  some ⟨.func, 1, 8, [Go.Value.nilFunc]⟩,
  some ⟨.int Go.IntKind.i32, 1, 4, [(Go.Value.int Go.IntKind.i32 0)]⟩,
  some ⟨.int Go.IntKind.i32, 1, 4, [(Go.Value.int Go.IntKind.i32 0)]⟩,
  none,
  none,
  some ⟨.func, 1, 8, [Go.Value.nilFunc]⟩,
  some ⟨.ptr 175, 1, 8, [(Go.Value.pointer none)]⟩,
  some ⟨.func, 1, 8, [Go.Value.nilFunc]⟩,
  some ⟨.ptr 182, 1, 8, [(Go.Value.pointer none)]⟩,
  some ⟨.func, 1, 8, [Go.Value.nilFunc]⟩,
  some ⟨.strct [(0, 1, 166), (1, 1, 166)], 2, 16, [(Go.Value.pointer none), (Go.Value.pointer none)]⟩,
  some ⟨.strct [(0, 1, 166), (1, 1, 166)], 2, 16, [(Go.Value.pointer none), (Go.Value.pointer none)]⟩,
  some ⟨.func, 1, 8, [Go.Value.nilFunc]⟩,
  some ⟨.func, 1, 8, [Go.Value.nilFunc]⟩,
  some ⟨.arr 8 155, 8, 32, [(Go.Value.int Go.IntKind.u32 0), (Go.Value.int Go.IntKind.u32 0), (Go.Value.int Go.IntKind.u32 0), (Go.Value.int Go.IntKind.u32 0), (Go.Value.int Go.IntKind.u32 0), (Go.Value.int Go.IntKind.u32 0), (Go.Value.int Go.IntKind.u32 0), (Go.Value.int Go.IntKind.u32 0)]⟩,
  some ⟨.arr 64 5, 64, 64, [(Go.Value.int Go.IntKind.u8 0), (Go.Value.int Go.IntKind.u8 0), (Go.Value.int Go.IntKind.u8 0), (Go.Value.int Go.IntKind.u8 0), (Go.Value.int Go.IntKind.u8 0), (Go.Value.int Go.IntKind.u8 0), (Go.Value.int Go.IntKind.u8 0), (Go.Value.int Go.IntKind.u8 0), (Go.Value.int Go.IntKind.u8 0), (Go.Value.int Go.IntKind.u8 0), (Go.Value.int Go.IntKind.u8 0), (Go.Value.int Go.IntKind.u8 0), (Go.Value.int Go.IntKind.u8 0), (Go.Value.int Go.IntKind.u8 0), (Go.Value.int Go.IntKind.u8 0), (Go.Value.int Go.IntKind.u8 0), (Go.Value.int Go.IntKind.u8 0), (Go.Value.int Go.IntKind.u8 0), (Go.Value.int Go.IntKind.u8 0), (Go.Value.int Go.IntKind.u8 0), (Go.Value.int Go.IntKind.u8 0), (Go.Value.int Go.IntKind.u8 0), (Go.Value.int Go.IntKind.u8 0), (Go.Value.int Go.IntKind.u8 0), (Go.Value.int Go.IntKind.u8 0), (Go.Value.int Go.IntKind.u8 0), (Go.Value.int Go.IntKind.u8 0), (Go.Value.int Go.IntKind.u8 0), (Go.Value.int Go.IntKind.u8 0), (Go.Value.int Go.IntKind.u8 0), (Go.Value.int Go.IntKind.u8 0), (Go.Value.int Go.IntKind.u8 0), (Go.Value.int Go.IntKind.u8 0), (Go.Value.int Go.IntKind.u8 0), (Go.Value.int Go.IntKind.u8 0), (Go.Value.int Go.IntKind.u8 0), (Go.Value.int Go.IntKind.u8 0), (Go.Value.int Go.IntKind.u8 0), (Go.Value.int Go.IntKind.u8 0), (Go.Value.int Go.IntKind.u8 0), (Go.Value.int Go.IntKind.u8 0), (Go.Value.int Go.IntKind.u8 0), (Go.Value.int Go.IntKind.u8 0), (Go.Value.int Go.IntKind.u8 0), (Go.Value.int Go.IntKind.u8 0), (Go.Value.int Go.IntKind.u8 0), (Go.Value.int Go.IntKind.u8 0), (Go.Value.int Go.IntKind.u8 0), (Go.Value.int Go.IntKind.u8 0), (Go.Value.int Go.IntKind.u8 0), (Go.Value.int Go.IntKind.u8 0), (Go.Value.int Go.IntKind.u8 0), (Go.Value.int Go.IntKind.u8 0), (Go.Value.int Go.IntKind.u8 0), (Go.Value.int Go.IntKind.u8 0), (Go.Value.int Go.IntKind.u8 0), (Go.Value.int Go.IntKind.u8 0), (Go.Value.int Go.IntKind.u8 0), (Go.Value.int Go.IntKind.u8 0), (Go.Value.int Go.IntKind.u8 0), (Go.Value.int Go.IntKind.u8 0), (Go.Value.int Go.IntKind.u8 0), (Go.Value.int Go.IntKind.u8 0), (Go.Value.int Go.IntKind.u8 0)]⟩,
  some ⟨.strct [(0, 8, 172), (8, 64, 173), (72, 1, 3)], 73, 104, [(Go.Value.int Go.IntKind.u32 0), (Go.Value.int Go.IntKind.u32 0), (Go.Value.int Go.IntKind.u32 0), (Go.Value.int Go.IntKind.u32 0), (Go.Value.int Go.IntKind.u32 0), (Go.Value.int Go.IntKind.u32 0), (Go.Value.int Go.IntKind.u32 0), (Go.Value.int Go.IntKind.u32 0), (Go.Value.int Go.IntKind.u8 0), (Go.Value.int Go.IntKind.u8 0), (Go.Value.int Go.IntKind.u8 0), (Go.Value.int Go.IntKind.u8 0), (Go.Value.int Go.IntKind.u8 0), (Go.Value.int Go.IntKind.u8 0), (Go.Value.int Go.IntKind.u8 0), (Go.Value.int Go.IntKind.u8 0), (Go.Value.int Go.IntKind.u8 0), (Go.Value.int Go.IntKind.u8 0), (Go.Value.int Go.IntKind.u8 0), (Go.Value.int Go.IntKind.u8 0), (Go.Value.int Go.IntKind.u8 0), (Go.Value.int Go.IntKind.u8 0), (Go.Value.int Go.IntKind.u8 0), (Go.Value.int Go.IntKind.u8 0), (Go.Value.int Go.IntKind.u8 0), (Go.Value.int Go.IntKind.u8 0), (Go.Value.int Go.IntKind.u8 0), (Go.Value.int Go.IntKind.u8 0), (Go.Value.int Go.IntKind.u8 0), (Go.Value.int Go.IntKind.u8 0), (Go.Value.int Go.IntKind.u8 0), (Go.Value.int Go.IntKind.u8 0), (Go.Value.int Go.IntKind.u8 0), (Go.Value.int Go.IntKind.u8 0), (Go.Value.int Go.IntKind.u8 0), (Go.Value.int Go.IntKind.u8 0), (Go.Value.int Go.IntKind.u8 0), (Go.Value.int Go.IntKind.u8 0), (Go.Value.int Go.IntKind.u8 0), (Go.Value.int Go.IntKind.u8 0), (Go.Value.int Go.IntKind.u8 0), (Go.Value.int Go.IntKind.u8 0), (Go.Value.int Go.IntKind.u8 0), (Go.Value.int Go.IntKind.u8 0), (Go.Value.int Go.IntKind.u8 0), (Go.Value.int Go.IntKind.u8 0), (Go.Value.int Go.IntKind.u8 0), (Go.Value.int Go.IntKind.u8 0), (Go.Value.int Go.IntKind.u8 0), (Go.Value.int Go.IntKind.u8 0), (Go.Value.int Go.IntKind.u8 0), (Go.Value.int Go.IntKind.u8 0), (Go.Value.int Go.IntKind.u8 0), (Go.Value.int Go.IntKind.u8 0), (Go.Value.int Go.IntKind.u8 0), (Go.Value.int Go.IntKind.u8 0), (Go.Value.int Go.IntKind.u8 0), (Go.Value.int Go.IntKind.u8 0), (Go.Value.int Go.IntKind.u8 0), (Go.Value.int Go.IntKind.u8 0), (Go.Value.int Go.IntKind.u8 0), (Go.Value.int Go.IntKind.u8 0), (Go.Value.int Go.IntKind.u8 0), (Go.Value.int Go.IntKind.u8 0), (Go.Value.int Go.IntKind.u8 0), (Go.Value.int Go.IntKind.u8 0), (Go.Value.int Go.IntKind.u8 0), (Go.Value.int Go.IntKind.u8 0), (Go.Value.int Go.IntKind.u8 0), (Go.Value.int Go.IntKind.u8 0), (Go.Value.int Go.IntKind.u8 0), (Go.Value.int Go.IntKind.u8 0), (Go.Value.int Go.IntKind.i64 0)]⟩,
  some ⟨.strct [(0, 8, 172), (8, 64, 173), (72, 1, 3)], 73, 104, [(Go.Value.int Go.IntKind.u32 0), (Go.Value.int Go.IntKind.u32 0), (Go.Value.int Go.IntKind.u32 0), (Go.Value.int Go.IntKind.u32 0), (Go.Value.int Go.IntKind.u32 0), (Go.Value.int Go.IntKind.u32 0), (Go.Value.int Go.IntKind.u32 0), (Go.Value.int Go.IntKind.u32 0), (Go.Value.int Go.IntKind.u8 0), (Go.Value.int Go.IntKind.u8 0), (Go.Value.int Go.IntKind.u8 0), (Go.Value.int Go.IntKind.u8 0), (Go.Value.int Go.IntKind.u8 0), (Go.Value.int Go.IntKind.u8 0), (Go.Value.int Go.IntKind.u8 0), (Go.Value.int Go.IntKind.u8 0), (Go.Value.int Go.IntKind.u8 0), (Go.Value.int Go.IntKind.u8 0), (Go.Value.int Go.IntKind.u8 0), (Go.Value.int Go.IntKind.u8 0), (Go.Value.int Go.IntKind.u8 0), (Go.Value.int Go.IntKind.u8 0), (Go.Value.int Go.IntKind.u8 0), (Go.Value.int Go.IntKind.u8 0), (Go.Value.int Go.IntKind.u8 0), (Go.Value.int Go.IntKind.u8 0), (Go.Value.int Go.IntKind.u8 0), (Go.Value.int Go.IntKind.u8 0), (Go.Value.int Go.IntKind.u8 0), (Go.Value.int Go.IntKind.u8 0), (Go.Value.int Go.IntKind.u8 0), (Go.Value.int Go.IntKind.u8 0), (Go.Value.int Go.IntKind.u8 0), (Go.Value.int Go.IntKind.u8 0), (Go.Value.int Go.IntKind.u8 0), (Go.Value.int Go.IntKind.u8 0), (Go.Value.int Go.IntKind.u8 0), (Go.Value.int Go.IntKind.u8 0), (Go.Value.int Go.IntKind.u8 0), (Go.Value.int Go.IntKind.u8 0), (Go.Value.int Go.IntKind.u8 0), (Go.Value.int Go.IntKind.u8 0), (Go.Value.int Go.IntKind.u8 0), (Go.Value.int Go.IntKind.u8 0), (Go.Value.int Go.IntKind.u8 0), (Go.Value.int Go.IntKind.u8 0), (Go.Value.int Go.IntKind.u8 0), (Go.Value.int Go.IntKind.u8 0), (Go.Value.int Go.IntKind.u8 0), (Go.Value.int Go.IntKind.u8 0), (Go.Value.int Go.IntKind.u8 0), (Go.Value.int Go.IntKind.u8 0), (Go.Value.int Go.IntKind.u8 0), (Go.Value.int Go.IntKind.u8 0), (Go.Value.int Go.IntKind.u8 0), (Go.Value.int Go.IntKind.u8 0), (Go.Value.int Go.IntKind.u8 0), (Go.Value.int Go.IntKind.u8 0), (Go.Value.int Go.IntKind.u8 0), (Go.Value.int Go.IntKind.u8 0), (Go.Value.int Go.IntKind.u8 0), (Go.Value.int Go.IntKind.u8 0), (Go.Value.int Go.IntKind.u8 0), (Go.Value.int Go.IntKind.u8 0), (Go.Value.int Go.IntKind.u8 0), (Go.Value.int Go.IntKind.u8 0), (Go.Value.int Go.IntKind.u8 0), (Go.Value.int Go.IntKind.u8 0), (Go.Value.int Go.IntKind.u8 0), (Go.Value.int Go.IntKind.u8 0), (Go.Value.int Go.IntKind.u8 0), (Go.Value.int Go.IntKind.u8 0), (Go.Value.int Go.IntKind.i64 0)]⟩,
  some ⟨.func, 1, 8, [Go.Value.nilFunc]⟩,
  some ⟨.func, 1, 8, [Go.Value.nilFunc]⟩,
  some ⟨.strct [(0, 1, 164)], 1, 8, [(Go.Value.pointer none)]⟩,
  some ⟨.strct [(0, 1, 164)], 1, 8, [(Go.Value.pointer none)]⟩,
  some ⟨.func, 1, 8, [Go.Value.nilFunc]⟩,
  some ⟨.strct [(0, 1, 179), (1, 1, 179)], 2, 16, [(Go.Value.pointer none), (Go.Value.pointer none)]⟩,
  some ⟨.strct [(0, 1, 179), (1, 1, 179)], 2, 16, [(Go.Value.pointer none), (Go.Value.pointer none)]⟩,
  some ⟨.func, 1, 8, [Go.Value.nilFunc]⟩,
  some ⟨.func, 1, 8, [Go.Value.nilFunc]⟩,
  some ⟨.arr 16 155, 16, 64, [(Go.Value.int Go.IntKind.u32 0), (Go.Value.int Go.IntKind.u32 0), (Go.Value.int Go.IntKind.u32 0), (Go.Value.int Go.IntKind.u32 0), (Go.Value.int Go.IntKind.u32 0), (Go.Value.int Go.IntKind.u32 0), (Go.Value.int Go.IntKind.u32 0), (Go.Value.int Go.IntKind.u32 0), (Go.Value.int Go.IntKind.u32 0), (Go.Value.int Go.IntKind.u32 0), (Go.Value.int Go.IntKind.u32 0), (Go.Value.int Go.IntKind.u32 0), (Go.Value.int Go.IntKind.u32 0), (Go.Value.int Go.IntKind.u32 0), (Go.Value.int Go.IntKind.u32 0), (Go.Value.int Go.IntKind.u32 0)]⟩,
  some ⟨.arr 64 155, 64, 256, [(Go.Value.int Go.IntKind.u32 0), (Go.Value.int Go.IntKind.u32 0), (Go.Value.int Go.IntKind.u32 0), (Go.Value.int Go.IntKind.u32 0), (Go.Value.int Go.IntKind.u32 0), (Go.Value.int Go.IntKind.u32 0), (Go.Value.int Go.IntKind.u32 0), (Go.Value.int Go.IntKind.u32 0), (Go.Value.int Go.IntKind.u32 0), (Go.Value.int Go.IntKind.u32 0), (Go.Value.int Go.IntKind.u32 0), (Go.Value.int Go.IntKind.u32 0), (Go.Value.int Go.IntKind.u32 0), (Go.Value.int Go.IntKind.u32 0), (Go.Value.int Go.IntKind.u32 0), (Go.Value.int Go.IntKind.u32 0), (Go.Value.int Go.IntKind.u32 0), (Go.Value.int Go.IntKind.u32 0), (Go.Value.int Go.IntKind.u32 0), (Go.Value.int Go.IntKind.u32 0), (Go.Value.int Go.IntKind.u32 0), (Go.Value.int Go.IntKind.u32 0), (Go.Value.int Go.IntKind.u32 0), (Go.Value.int Go.IntKind.u32 0), (Go.Value.int Go.IntKind.u32 0), (Go.Value.int Go.IntKind.u32 0), (Go.Value.int Go.IntKind.u32 0), (Go.Value.int Go.IntKind.u32 0), (Go.Value.int Go.IntKind.u32 0), (Go.Value.int Go.IntKind.u32 0), (Go.Value.int Go.IntKind.u32 0), (Go.Value.int Go.IntKind.u32 0), (Go.Value.int Go.IntKind.u32 0), (Go.Value.int Go.IntKind.u32 0), (Go.Value.int Go.IntKind.u32 0), (Go.Value.int Go.IntKind.u32 0), (Go.Value.int Go.IntKind.u32 0), (Go.Value.int Go.IntKind.u32 0), (Go.Value.int Go.IntKind.u32 0), (Go.Value.int Go.IntKind.u32 0), (Go.Value.int Go.IntKind.u32 0), (Go.Value.int Go.IntKind.u32 0), (Go.Value.int Go.IntKind.u32 0), (Go.Value.int Go.IntKind.u32 0), (Go.Value.int Go.IntKind.u32 0), (Go.Value.int Go.IntKind.u32 0), (Go.Value.int Go.IntKind.u32 0), (Go.Value.int Go.IntKind.u32 0), (Go.Value.int Go.IntKind.u32 0), (Go.Value.int Go.IntKind.u32 0), (Go.Value.int Go.IntKind.u32 0), (Go.Value.int Go.IntKind.u32 0), (Go.Value.int Go.IntKind.u32 0), (Go.Value.int Go.IntKind.u32 0), (Go.Value.int Go.IntKind.u32 0), (Go.Value.int Go.IntKind.u32 0), (Go.Value.int Go.IntKind.u32 0), (Go.Value.int Go.IntKind.u32 0), (Go.Value.int Go.IntKind.u32 0), (Go.Value.int Go.IntKind.u32 0), (Go.Value.int Go.IntKind.u32 0), (Go.Value.int Go.IntKind.u32 0), (Go.Value.int Go.IntKind.u32 0), (Go.Value.int Go.IntKind.u32 0)]⟩,
  some ⟨.func, 1, 8, [Go.Value.nilFunc]⟩,
  some ⟨.func, 1, 8, [Go.Value.nilFunc]⟩,
  some ⟨.arr 4 5, 4, 4, [(Go.Value.int Go.IntKind.u8 0), (Go.Value.int Go.IntKind.u8 0), (Go.Value.int Go.IntKind.u8 0), (Go.Value.int Go.IntKind.u8 0)]⟩]
def TT : Wk.Tab := Wk.nth TTl
theorem TT_eq (t : Nat) : TT t = Wk.nth TTl t := rfl
theorem tok1 : Wk.TOk Try.prog 1 ⟨.func, 1, 8, [Go.Value.nilFunc]⟩ := ⟨⟨Try.t1, _, by kernel_rfl, rfl, rfl, rfl, by kernel_rfl⟩, ⟨_, _, _, Try.underlying1⟩, by kernel_rfl⟩
theorem tok2 : Wk.TOk Try.prog 2 ⟨.int Go.IntKind.i64, 1, 8, [(Go.Value.int Go.IntKind.i64 0)]⟩ := ⟨⟨Try.t2, _, by kernel_rfl, rfl, rfl, rfl, by kernel_rfl⟩, Try.underlying2, by kernel_rfl⟩
theorem tok3 : Wk.TOk Try.prog 3 ⟨.int Go.IntKind.i64, 1, 8, [(Go.Value.int Go.IntKind.i64 0)]⟩ := ⟨⟨Try.t3, _, by kernel_rfl, rfl, rfl, rfl, by kernel_rfl⟩, Try.underlying3, by kernel_rfl⟩
theorem tok4 : Wk.TOk Try.prog 4 ⟨.bool, 1, 1, [(Go.Value.bool false)]⟩ := ⟨⟨Try.t4, _, by kernel_rfl, rfl, rfl, rfl, by kernel_rfl⟩, Try.underlying4, by kernel_rfl⟩
theorem tok5 : Wk.TOk Try.prog 5 ⟨.int Go.IntKind.u8, 1, 1, [(Go.Value.int Go.IntKind.u8 0)]⟩ := ⟨⟨Try.t5, _, by kernel_rfl, rfl, rfl, rfl, by kernel_rfl⟩, Try.underlying5, by kernel_rfl⟩
theorem tok6 : Wk.TOk Try.prog 6 ⟨.int Go.IntKind.u8, 1, 1, [(Go.Value.int Go.IntKind.u8 0)]⟩ := ⟨⟨Try.t6, _, by kernel_rfl, rfl, rfl, rfl, by kernel_rfl⟩, Try.underlying6, by kernel_rfl⟩
theorem tok7 : Wk.TOk Try.prog 7 ⟨.strct [(0, 1, 2), (1, 1, 3), (2, 1, 4), (3, 1, 6)], 4, 24, [(Go.Value.int Go.IntKind.i64 0), (Go.Value.int Go.IntKind.i64 0), (Go.Value.bool false), (Go.Value.int Go.IntKind.u8 0)]⟩ := ⟨⟨Try.t7, _, by kernel_rfl, rfl, rfl, rfl, by kernel_rfl⟩, ⟨_, Try.underlying7, by kernel_rfl, Try.stoodInHeld7, by kernel_rfl⟩, by kernel_rfl⟩
theorem tok8 : Wk.TOk Try.prog 8 ⟨.strct [(0, 1, 2), (1, 1, 3), (2, 1, 4), (3, 1, 6)], 4, 24, [(Go.Value.int Go.IntKind.i64 0), (Go.Value.int Go.IntKind.i64 0), (Go.Value.bool false), (Go.Value.int Go.IntKind.u8 0)]⟩ := ⟨⟨Try.t8, _, by kernel_rfl, rfl, rfl, rfl, by kernel_rfl⟩, ⟨_, Try.underlying8, by kernel_rfl, Try.stoodInHeld8, by kernel_rfl⟩, by kernel_rfl⟩
theorem tok9 : Wk.TOk Try.prog 9 ⟨.string, 1, 16, [(Go.Value.string { data := #[] })]⟩ := ⟨⟨Try.t9, _, by kernel_rfl, rfl, rfl, rfl, by kernel_rfl⟩, Try.underlying9, by kernel_rfl⟩
theorem tok10 : Wk.TOk Try.prog 10 ⟨.string, 1, 16, [(Go.Value.string { data := #[] })]⟩ := ⟨⟨Try.t10, _, by kernel_rfl, rfl, rfl, rfl, by kernel_rfl⟩, Try.underlying10, by kernel_rfl⟩
theorem tok11 : Wk.TOk Try.prog 11 ⟨.string, 1, 16, [(Go.Value.string { data := #[] })]⟩ := ⟨⟨Try.t11, _, by kernel_rfl, rfl, rfl, rfl, by kernel_rfl⟩, Try.underlying11, by kernel_rfl⟩
theorem tok12 : Wk.TOk Try.prog 12 ⟨.int Go.IntKind.u64, 1, 8, [(Go.Value.int Go.IntKind.u64 0)]⟩ := ⟨⟨Try.t12, _, by kernel_rfl, rfl, rfl, rfl, by kernel_rfl⟩, Try.underlying12, by kernel_rfl⟩
theorem tok15 : Wk.TOk Try.prog 15 ⟨.ptr 151, 1, 8, [(Go.Value.pointer none)]⟩ := ⟨⟨Try.t15, _, by kernel_rfl, rfl, rfl, rfl, by kernel_rfl⟩, Try.underlying15, by kernel_rfl⟩
theorem tok16 : Wk.TOk Try.prog 16 ⟨.ptr 154, 1, 8, [(Go.Value.pointer none)]⟩ := ⟨⟨Try.t16, _, by kernel_rfl, rfl, rfl, rfl, by kernel_rfl⟩, Try.underlying16, by kernel_rfl⟩
theorem tok17 : Wk.TOk Try.prog 17 ⟨.ptr 162, 1, 8, [(Go.Value.pointer none)]⟩ := ⟨⟨Try.t17, _, by kernel_rfl, rfl, rfl, rfl, by kernel_rfl⟩, Try.underlying17, by kernel_rfl⟩
theorem tok20 : Wk.TOk Try.prog 20 ⟨.iface, 1, 16, [Go.Value.nilIface]⟩ := ⟨⟨Try.t20, _, by kernel_rfl, rfl, rfl, rfl, by kernel_rfl⟩, ⟨_, Try.underlying20⟩, by kernel_rfl⟩
theorem tok21 : Wk.TOk Try.prog 21 ⟨.int Go.IntKind.i32, 1, 4, [(Go.Value.int Go.IntKind.i32 0)]⟩ := ⟨⟨Try.t21, _, by kernel_rfl, rfl, rfl, rfl, by kernel_rfl⟩, Try.underlying21, by kernel_rfl⟩
theorem tok22 : Wk.TOk Try.prog 22 ⟨.slice 9, 1, 24, [(Go.Value.slice none 0 0)]⟩ := ⟨⟨Try.t22, _, by kernel_rfl, rfl, rfl, rfl, by kernel_rfl⟩, Try.underlying22, by kernel_rfl⟩
theorem tok23 : Wk.TOk Try.prog 23 ⟨.func, 1, 8, [Go.Value.nilFunc]⟩ := ⟨⟨Try.t23, _, by kernel_rfl, rfl, rfl, rfl, by kernel_rfl⟩, ⟨_, _, _, Try.underlying23⟩, by kernel_rfl⟩
theorem tok24 : Wk.TOk Try.prog 24 ⟨.func, 1, 8, [Go.Value.nilFunc]⟩ := ⟨⟨Try.t24, _, by kernel_rfl, rfl, rfl, rfl, by kernel_rfl⟩, ⟨_, _, _, Try.underlying24⟩, by kernel_rfl⟩
theorem tok25 : Wk.TOk Try.prog 25 ⟨.ptr 92, 1, 8, [(Go.Value.pointer none)]⟩ := ⟨⟨Try.t25, _, by kernel_rfl, rfl, rfl, rfl, by kernel_rfl⟩, Try.underlying25, by kernel_rfl⟩
theorem tok26 : Wk.TOk Try.prog 26 ⟨.func, 1, 8, [Go.Value.nilFunc]⟩ := ⟨⟨Try.t26, _, by kernel_rfl, rfl, rfl, rfl, by kernel_rfl⟩, ⟨_, _, _, Try.underlying26⟩, by kernel_rfl⟩
theorem tok27 : Wk.TOk Try.prog 27 ⟨.slice 55, 1, 24, [(Go.Value.slice none 0 0)]⟩ := ⟨⟨Try.t27, _, by kernel_rfl, rfl, rfl, rfl, by kernel_rfl⟩, Try.underlying27, by kernel_rfl⟩
theorem tok29 : Wk.TOk Try.prog 29 ⟨.func, 1, 8, [Go.Value.nilFunc]⟩ := ⟨⟨Try.t29, _, by kernel_rfl, rfl, rfl, rfl, by kernel_rfl⟩, ⟨_, _, _, Try.underlying29⟩, by kernel_rfl⟩
theorem tok30 : Wk.TOk Try.prog 30 ⟨.func, 1, 8, [Go.Value.nilFunc]⟩ := ⟨⟨Try.t30, _, by kernel_rfl, rfl, rfl, rfl, by kernel_rfl⟩, ⟨_, _, _, Try.underlying30⟩, by kernel_rfl⟩
theorem tok31 : Wk.TOk Try.prog 31 ⟨.int Go.IntKind.i64, 1, 8, [(Go.Value.int Go.IntKind.i64 0)]⟩ := ⟨⟨Try.t31, _, by kernel_rfl, rfl, rfl, rfl, by kernel_rfl⟩, Try.underlying31, by kernel_rfl⟩
theorem tok33 : Wk.TOk Try.prog 33 ⟨.func, 1, 8, [Go.Value.nilFunc]⟩ := ⟨⟨Try.t33, _, by kernel_rfl, rfl, rfl, rfl, by kernel_rfl⟩, ⟨_, _, _, Try.underlying33⟩, by kernel_rfl⟩
theorem tok34 : Wk.TOk Try.prog 34 ⟨.func, 1, 8, [Go.Value.nilFunc]⟩ := ⟨⟨Try.t34, _, by kernel_rfl, rfl, rfl, rfl, by kernel_rfl⟩, ⟨_, _, _, Try.underlying34⟩, by kernel_rfl⟩
theorem tok36 : Wk.TOk Try.prog 36 ⟨.func, 1, 8, [Go.Value.nilFunc]⟩ := ⟨⟨Try.t36, _, by kernel_rfl, rfl, rfl, rfl, by kernel_rfl⟩, ⟨_, _, _, Try.underlying36⟩, by kernel_rfl⟩
theorem tok37 : Wk.TOk Try.prog 37 ⟨.func, 1, 8, [Go.Value.nilFunc]⟩ := ⟨⟨Try.t37, _, by kernel_rfl, rfl, rfl, rfl, by kernel_rfl⟩, ⟨_, _, _, Try.underlying37⟩, by kernel_rfl⟩
theorem tok38 : Wk.TOk Try.prog 38 ⟨.ptr 76, 1, 8, [(Go.Value.pointer none)]⟩ := ⟨⟨Try.t38, _, by kernel_rfl, rfl, rfl, rfl, by kernel_rfl⟩, Try.underlying38, by kernel_rfl⟩
theorem tok40 : Wk.TOk Try.prog 40 ⟨.func, 1, 8, [Go.Value.nilFunc]⟩ := ⟨⟨Try.t40, _, by kernel_rfl, rfl, rfl, rfl, by kernel_rfl⟩, ⟨_, _, _, Try.underlying40⟩, by kernel_rfl⟩
theorem tok41 : Wk.TOk Try.prog 41 ⟨.func, 1, 8, [Go.Value.nilFunc]⟩ := ⟨⟨Try.t41, _, by kernel_rfl, rfl, rfl, rfl, by kernel_rfl⟩, ⟨_, _, _, Try.underlying41⟩, by kernel_rfl⟩
theorem tok42 : Wk.TOk Try.prog 42 ⟨.func, 1, 8, [Go.Value.nilFunc]⟩ := ⟨⟨Try.t42, _, by kernel_rfl, rfl, rfl, rfl, by kernel_rfl⟩, ⟨_, _, _, Try.underlying42⟩, by kernel_rfl⟩
theorem tok43 : Wk.TOk Try.prog 43 ⟨.func, 1, 8, [Go.Value.nilFunc]⟩ := ⟨⟨Try.t43, _, by kernel_rfl, rfl, rfl, rfl, by kernel_rfl⟩, ⟨_, _, _, Try.underlying43⟩, by kernel_rfl⟩
theorem tok44 : Wk.TOk Try.prog 44 ⟨.func, 1, 8, [Go.Value.nilFunc]⟩ := ⟨⟨Try.t44, _, by kernel_rfl, rfl, rfl, rfl, by kernel_rfl⟩, ⟨_, _, _, Try.underlying44⟩, by kernel_rfl⟩
theorem tok45 : Wk.TOk Try.prog 45 ⟨.func, 1, 8, [Go.Value.nilFunc]⟩ := ⟨⟨Try.t45, _, by kernel_rfl, rfl, rfl, rfl, by kernel_rfl⟩, ⟨_, _, _, Try.underlying45⟩, by kernel_rfl⟩
theorem tok46 : Wk.TOk Try.prog 46 ⟨.func, 1, 8, [Go.Value.nilFunc]⟩ := ⟨⟨Try.t46, _, by kernel_rfl, rfl, rfl, rfl, by kernel_rfl⟩, ⟨_, _, _, Try.underlying46⟩, by kernel_rfl⟩
theorem tok47 : Wk.TOk Try.prog 47 ⟨.func, 1, 8, [Go.Value.nilFunc]⟩ := ⟨⟨Try.t47, _, by kernel_rfl, rfl, rfl, rfl, by kernel_rfl⟩, ⟨_, _, _, Try.underlying47⟩, by kernel_rfl⟩
theorem tok48 : Wk.TOk Try.prog 48 ⟨.func, 1, 8, [Go.Value.nilFunc]⟩ := ⟨⟨Try.t48, _, by kernel_rfl, rfl, rfl, rfl, by kernel_rfl⟩, ⟨_, _, _, Try.underlying48⟩, by kernel_rfl⟩
theorem tok49 : Wk.TOk Try.prog 49 ⟨.func, 1, 8, [Go.Value.nilFunc]⟩ := ⟨⟨Try.t49, _, by kernel_rfl, rfl, rfl, rfl, by kernel_rfl⟩, ⟨_, _, _, Try.underlying49⟩, by kernel_rfl⟩
theorem tok50 : Wk.TOk Try.prog 50 ⟨.func, 1, 8, [Go.Value.nilFunc]⟩ := ⟨⟨Try.t50, _, by kernel_rfl, rfl, rfl, rfl, by kernel_rfl⟩, ⟨_, _, _, Try.underlying50⟩, by kernel_rfl⟩
theorem tok51 : Wk.TOk Try.prog 51 ⟨.func, 1, 8, [Go.Value.nilFunc]⟩ := ⟨⟨Try.t51, _, by kernel_rfl, rfl, rfl, rfl, by kernel_rfl⟩, ⟨_, _, _, Try.underlying51⟩, by kernel_rfl⟩
theorem tok52 : Wk.TOk Try.prog 52 ⟨.func, 1, 8, [Go.Value.nilFunc]⟩ := ⟨⟨Try.t52, _, by kernel_rfl, rfl, rfl, rfl, by kernel_rfl⟩, ⟨_, _, _, Try.underlying52⟩, by kernel_rfl⟩
theorem tok53 : Wk.TOk Try.prog 53 ⟨.slice 3, 1, 24, [(Go.Value.slice none 0 0)]⟩ := ⟨⟨Try.t53, _, by kernel_rfl, rfl, rfl, rfl, by kernel_rfl⟩, Try.underlying53, by kernel_rfl⟩
theorem tok54 : Wk.TOk Try.prog 54 ⟨.strct [(0, 1, 5), (1, 1, 3), (2, 1, 3), (3, 1, 3), (4, 1, 3), (5, 1, 9), (6, 1, 53)], 7, 80, [(Go.Value.int Go.IntKind.u8 0), (Go.Value.int Go.IntKind.i64 0), (Go.Value.int Go.IntKind.i64 0), (Go.Value.int Go.IntKind.i64 0), (Go.Value.int Go.IntKind.i64 0), (Go.Value.string { data := #[] }), (Go.Value.slice none 0 0)]⟩ := ⟨⟨Try.t54, _, by kernel_rfl, rfl, rfl, rfl, by kernel_rfl⟩, ⟨_, Try.underlying54, by kernel_rfl, Try.stoodInHeld54, by kernel_rfl⟩, by kernel_rfl⟩
theorem tok55 : Wk.TOk Try.prog 55 ⟨.strct [(0, 1, 5), (1, 1, 3), (2, 1, 3), (3, 1, 3), (4, 1, 3), (5, 1, 9), (6, 1, 53)], 7, 80, [(Go.Value.int Go.IntKind.u8 0), (Go.Value.int Go.IntKind.i64 0), (Go.Value.int Go.IntKind.i64 0), (Go.Value.int Go.IntKind.i64 0), (Go.Value.int Go.IntKind.i64 0), (Go.Value.string { data := #[] }), (Go.Value.slice none 0 0)]⟩ := ⟨⟨Try.t55, _, by kernel_rfl, rfl, rfl, rfl, by kernel_rfl⟩, ⟨_, Try.underlying55, by kernel_rfl, Try.stoodInHeld55, by kernel_rfl⟩, by kernel_rfl⟩
theorem tok56 : Wk.TOk Try.prog 56 ⟨.func, 1, 8, [Go.Value.nilFunc]⟩ := ⟨⟨Try.t56, _, by kernel_rfl, rfl, rfl, rfl, by kernel_rfl⟩, ⟨_, _, _, Try.underlying56⟩, by kernel_rfl⟩
theorem tok57 : Wk.TOk Try.prog 57 ⟨.ptr 60, 1, 8, [(Go.Value.pointer none)]⟩ := ⟨⟨Try.t57, _, by kernel_rfl, rfl, rfl, rfl, by kernel_rfl⟩, Try.underlying57, by kernel_rfl⟩
theorem tok58 : Wk.TOk Try.prog 58 ⟨.map 9 97, 1, 8, [(Go.Value.map none)]⟩ := ⟨⟨Try.t58, _, by kernel_rfl, rfl, rfl, rfl, by kernel_rfl⟩, Try.underlying58, by kernel_rfl⟩
theorem tok59 : Wk.TOk Try.prog 59 ⟨.strct [(0, 1, 27), (1, 1, 22), (2, 1, 58)], 3, 56, [(Go.Value.slice none 0 0), (Go.Value.slice none 0 0), (Go.Value.map none)]⟩ := ⟨⟨Try.t59, _, by kernel_rfl, rfl, rfl, rfl, by kernel_rfl⟩, ⟨_, Try.underlying59, by kernel_rfl, Try.stoodInHeld59, by kernel_rfl⟩, by kernel_rfl⟩
theorem tok60 : Wk.TOk Try.prog 60 ⟨.strct [(0, 1, 27), (1, 1, 22), (2, 1, 58)], 3, 56, [(Go.Value.slice none 0 0), (Go.Value.slice none 0 0), (Go.Value.map none)]⟩ := ⟨⟨Try.t60, _, by kernel_rfl, rfl, rfl, rfl, by kernel_rfl⟩, ⟨_, Try.underlying60, by kernel_rfl, Try.stoodInHeld60, by kernel_rfl⟩, by kernel_rfl⟩
theorem tok61 : Wk.TOk Try.prog 61 ⟨.func, 1, 8, [Go.Value.nilFunc]⟩ := ⟨⟨Try.t61, _, by kernel_rfl, rfl, rfl, rfl, by kernel_rfl⟩, ⟨_, _, _, Try.underlying61⟩, by kernel_rfl⟩
theorem tok62 : Wk.TOk Try.prog 62 ⟨.func, 1, 8, [Go.Value.nilFunc]⟩ := ⟨⟨Try.t62, _, by kernel_rfl, rfl, rfl, rfl, by kernel_rfl⟩, ⟨_, _, _, Try.underlying62⟩, by kernel_rfl⟩
theorem tok63 : Wk.TOk Try.prog 63 ⟨.func, 1, 8, [Go.Value.nilFunc]⟩ := ⟨⟨Try.t63, _, by kernel_rfl, rfl, rfl, rfl, by kernel_rfl⟩, ⟨_, _, _, Try.underlying63⟩, by kernel_rfl⟩
theorem tok65 : Wk.TOk Try.prog 65 ⟨.func, 1, 8, [Go.Value.nilFunc]⟩ := ⟨⟨Try.t65, _, by kernel_rfl, rfl, rfl, rfl, by kernel_rfl⟩, ⟨_, _, _, Try.underlying65⟩, by kernel_rfl⟩
theorem tok66 : Wk.TOk Try.prog 66 ⟨.slice 5, 1, 24, [(Go.Value.slice none 0 0)]⟩ := ⟨⟨Try.t66, _, by kernel_rfl, rfl, rfl, rfl, by kernel_rfl⟩, Try.underlying66, by kernel_rfl⟩
theorem tok67 : Wk.TOk Try.prog 67 ⟨.int Go.IntKind.u64, 1, 8, [(Go.Value.int Go.IntKind.u64 0)]⟩ := ⟨⟨Try.t67, _, by kernel_rfl, rfl, rfl, rfl, by kernel_rfl⟩, Try.underlying67, by kernel_rfl⟩
theorem tok68 : Wk.TOk Try.prog 68 ⟨.func, 1, 8, [Go.Value.nilFunc]⟩ := ⟨⟨Try.t68, _, by kernel_rfl, rfl, rfl, rfl, by kernel_rfl⟩, ⟨_, _, _, Try.underlying68⟩, by kernel_rfl⟩
theorem tok70 : Wk.TOk Try.prog 70 ⟨.func, 1, 8, [Go.Value.nilFunc]⟩ := ⟨⟨Try.t70, _, by kernel_rfl, rfl, rfl, rfl, by kernel_rfl⟩, ⟨_, _, _, Try.underlying70⟩, by kernel_rfl⟩
theorem tok71 : Wk.TOk Try.prog 71 ⟨.strct [], 0, 0, []⟩ := ⟨⟨Try.t71, _, by kernel_rfl, rfl, rfl, rfl, by kernel_rfl⟩, ⟨_, Try.underlying71, by kernel_rfl, Try.stoodInHeld71, by kernel_rfl⟩, by kernel_rfl⟩
theorem tok72 : Wk.TOk Try.prog 72 ⟨.strct [], 0, 0, []⟩ := ⟨⟨Try.t72, _, by kernel_rfl, rfl, rfl, rfl, by kernel_rfl⟩, ⟨_, Try.underlying72, by kernel_rfl, Try.stoodInHeld72, by kernel_rfl⟩, by kernel_rfl⟩
theorem tok73 : Wk.TOk Try.prog 73 ⟨.iface, 1, 16, [Go.Value.nilIface]⟩ := ⟨⟨Try.t73, _, by kernel_rfl, rfl, rfl, rfl, by kernel_rfl⟩, ⟨_, Try.underlying73⟩, by kernel_rfl⟩
theorem tok74 : Wk.TOk Try.prog 74 ⟨.iface, 1, 16, [Go.Value.nilIface]⟩ := ⟨⟨Try.t74, _, by kernel_rfl, rfl, rfl, rfl, by kernel_rfl⟩, ⟨_, Try.underlying74⟩, by kernel_rfl⟩
theorem tok75 : Wk.TOk Try.prog 75 ⟨.strct [(0, 1, 74)], 1, 16, [Go.Value.nilIface]⟩ := ⟨⟨Try.t75, _, by kernel_rfl, rfl, rfl, rfl, by kernel_rfl⟩, ⟨_, Try.underlying75, by kernel_rfl, Try.stoodInHeld75, by kernel_rfl⟩, by kernel_rfl⟩
theorem tok76 : Wk.TOk Try.prog 76 ⟨.strct [(0, 1, 74)], 1, 16, [Go.Value.nilIface]⟩ := ⟨⟨Try.t76, _, by kernel_rfl, rfl, rfl, rfl, by kernel_rfl⟩, ⟨_, Try.underlying76, by kernel_rfl, Try.stoodInHeld76, by kernel_rfl⟩, by kernel_rfl⟩
theorem tok77 : Wk.TOk Try.prog 77 ⟨.strct [(0, 1, 9)], 1, 16, [(Go.Value.string { data := #[] })]⟩ := ⟨⟨Try.t77, _, by kernel_rfl, rfl, rfl, rfl, by kernel_rfl⟩, ⟨_, Try.underlying77, by kernel_rfl, Try.stoodInHeld77, by kernel_rfl⟩, by kernel_rfl⟩
theorem tok78 : Wk.TOk Try.prog 78 ⟨.strct [(0, 1, 9)], 1, 16, [(Go.Value.string { data := #[] })]⟩ := ⟨⟨Try.t78, _, by kernel_rfl, rfl, rfl, rfl, by kernel_rfl⟩, ⟨_, Try.underlying78, by kernel_rfl, Try.stoodInHeld78, by kernel_rfl⟩, by kernel_rfl⟩
theorem tok79 : Wk.TOk Try.prog 79 ⟨.func, 1, 8, [Go.Value.nilFunc]⟩ := ⟨⟨Try.t79, _, by kernel_rfl, rfl, rfl, rfl, by kernel_rfl⟩, ⟨_, _, _, Try.underlying79⟩, by kernel_rfl⟩
theorem tok82 : Wk.TOk Try.prog 82 ⟨.func, 1, 8, [Go.Value.nilFunc]⟩ := ⟨⟨Try.t82, _, by kernel_rfl, rfl, rfl, rfl, by kernel_rfl⟩, ⟨_, _, _, Try.underlying82⟩, by kernel_rfl⟩
theorem tok83 : Wk.TOk Try.prog 83 ⟨.func, 1, 8, [Go.Value.nilFunc]⟩ := ⟨⟨Try.t83, _, by kernel_rfl, rfl, rfl, rfl, by kernel_rfl⟩, ⟨_, _, _, Try.underlying83⟩, by kernel_rfl⟩
theorem tok84 : Wk.TOk Try.prog 84 ⟨.func, 1, 8, [Go.Value.nilFunc]⟩ := ⟨⟨Try.t84, _, by kernel_rfl, rfl, rfl, rfl, by kernel_rfl⟩, ⟨_, _, _, Try.underlying84⟩, by kernel_rfl⟩
theorem tok86 : Wk.TOk Try.prog 86 ⟨.func, 1, 8, [Go.Value.nilFunc]⟩ := ⟨⟨Try.t86, _, by kernel_rfl, rfl, rfl, rfl, by kernel_rfl⟩, ⟨_, _, _, Try.underlying86⟩, by kernel_rfl⟩
theorem tok87 : Wk.TOk Try.prog 87 ⟨.func, 1, 8, [Go.Value.nilFunc]⟩ := ⟨⟨Try.t87, _, by kernel_rfl, rfl, rfl, rfl, by kernel_rfl⟩, ⟨_, _, _, Try.underlying87⟩, by kernel_rfl⟩
theorem tok88 : Wk.TOk Try.prog 88 ⟨.func, 1, 8, [Go.Value.nilFunc]⟩ := ⟨⟨Try.t88, _, by kernel_rfl, rfl, rfl, rfl, by kernel_rfl⟩, ⟨_, _, _, Try.underlying88⟩, by kernel_rfl⟩
theorem tok89 : Wk.TOk Try.prog 89 ⟨.int Go.IntKind.u64, 1, 8, [(Go.Value.int Go.IntKind.u64 0)]⟩ := ⟨⟨Try.t89, _, by kernel_rfl, rfl, rfl, rfl, by kernel_rfl⟩, Try.underlying89, by kernel_rfl⟩
theorem tok90 : Wk.TOk Try.prog 90 ⟨.map 9 100, 1, 8, [(Go.Value.map none)]⟩ := ⟨⟨Try.t90, _, by kernel_rfl, rfl, rfl, rfl, by kernel_rfl⟩, Try.underlying90, by kernel_rfl⟩
theorem tok91 : Wk.TOk Try.prog 91 ⟨.strct [(0, 1, 90)], 1, 8, [(Go.Value.map none)]⟩ := ⟨⟨Try.t91, _, by kernel_rfl, rfl, rfl, rfl, by kernel_rfl⟩, ⟨_, Try.underlying91, by kernel_rfl, Try.stoodInHeld91, by kernel_rfl⟩, by kernel_rfl⟩
theorem tok92 : Wk.TOk Try.prog 92 ⟨.strct [(0, 1, 90)], 1, 8, [(Go.Value.map none)]⟩ := ⟨⟨Try.t92, _, by kernel_rfl, rfl, rfl, rfl, by kernel_rfl⟩, ⟨_, Try.underlying92, by kernel_rfl, Try.stoodInHeld92, by kernel_rfl⟩, by kernel_rfl⟩
theorem tok93 : Wk.TOk Try.prog 93 ⟨.func, 1, 8, [Go.Value.nilFunc]⟩ := ⟨⟨Try.t93, _, by kernel_rfl, rfl, rfl, rfl, by kernel_rfl⟩, ⟨_, _, _, Try.underlying93⟩, by kernel_rfl⟩
theorem tok95 : Wk.TOk Try.prog 95 ⟨.func, 1, 8, [Go.Value.nilFunc]⟩ := ⟨⟨Try.t95, _, by kernel_rfl, rfl, rfl, rfl, by kernel_rfl⟩, ⟨_, _, _, Try.underlying95⟩, by kernel_rfl⟩
theorem tok96 : Wk.TOk Try.prog 96 ⟨.strct [(0, 1, 3)], 1, 8, [(Go.Value.int Go.IntKind.i64 0)]⟩ := ⟨⟨Try.t96, _, by kernel_rfl, rfl, rfl, rfl, by kernel_rfl⟩, ⟨_, Try.underlying96, by kernel_rfl, Try.stoodInHeld96, by kernel_rfl⟩, by kernel_rfl⟩
theorem tok97 : Wk.TOk Try.prog 97 ⟨.strct [(0, 1, 3)], 1, 8, [(Go.Value.int Go.IntKind.i64 0)]⟩ := ⟨⟨Try.t97, _, by kernel_rfl, rfl, rfl, rfl, by kernel_rfl⟩, ⟨_, Try.underlying97, by kernel_rfl, Try.stoodInHeld97, by kernel_rfl⟩, by kernel_rfl⟩
theorem tok99 : Wk.TOk Try.prog 99 ⟨.strct [(0, 1, 22), (1, 1, 4)], 2, 32, [(Go.Value.slice none 0 0), (Go.Value.bool false)]⟩ := ⟨⟨Try.t99, _, by kernel_rfl, rfl, rfl, rfl, by kernel_rfl⟩, ⟨_, Try.underlying99, by kernel_rfl, Try.stoodInHeld99, by kernel_rfl⟩, by kernel_rfl⟩
theorem tok100 : Wk.TOk Try.prog 100 ⟨.strct [(0, 1, 22), (1, 1, 4)], 2, 32, [(Go.Value.slice none 0 0), (Go.Value.bool false)]⟩ := ⟨⟨Try.t100, _, by kernel_rfl, rfl, rfl, rfl, by kernel_rfl⟩, ⟨_, Try.underlying100, by kernel_rfl, Try.stoodInHeld100, by kernel_rfl⟩, by kernel_rfl⟩
theorem tok102 : Wk.TOk Try.prog 102 ⟨.strct [(0, 1, 3), (1, 1, 31)], 2, 16, [(Go.Value.int Go.IntKind.i64 0), (Go.Value.int Go.IntKind.i64 0)]⟩ := ⟨⟨Try.t102, _, by kernel_rfl, rfl, rfl, rfl, by kernel_rfl⟩, ⟨_, Try.underlying102, by kernel_rfl, Try.stoodInHeld102, by kernel_rfl⟩, by kernel_rfl⟩
theorem tok103 : Wk.TOk Try.prog 103 ⟨.strct [(0, 1, 3), (1, 1, 31)], 2, 16, [(Go.Value.int Go.IntKind.i64 0), (Go.Value.int Go.IntKind.i64 0)]⟩ := ⟨⟨Try.t103, _, by kernel_rfl, rfl, rfl, rfl, by kernel_rfl⟩, ⟨_, Try.underlying103, by kernel_rfl, Try.stoodInHeld103, by kernel_rfl⟩, by kernel_rfl⟩
theorem tok105 : Wk.TOk Try.prog 105 ⟨.ptr 107, 1, 8, [(Go.Value.pointer none)]⟩ := ⟨⟨Try.t105, _, by kernel_rfl, rfl, rfl, rfl, by kernel_rfl⟩, Try.underlying105, by kernel_rfl⟩
theorem tok106 : Wk.TOk Try.prog 106 ⟨.strct [(0, 1, 22), (1, 1, 22)], 2, 48, [(Go.Value.slice none 0 0), (Go.Value.slice none 0 0)]⟩ := ⟨⟨Try.t106, _, by kernel_rfl, rfl, rfl, rfl, by kernel_rfl⟩, ⟨_, Try.underlying106, by kernel_rfl, Try.stoodInHeld106, by kernel_rfl⟩, by kernel_rfl⟩
theorem tok107 : Wk.TOk Try.prog 107 ⟨.strct [(0, 1, 22), (1, 1, 22)], 2, 48, [(Go.Value.slice none 0 0), (Go.Value.slice none 0 0)]⟩ := ⟨⟨Try.t107, _, by kernel_rfl, rfl, rfl, rfl, by kernel_rfl⟩, ⟨_, Try.underlying107, by kernel_rfl, Try.stoodInHeld107, by kernel_rfl⟩, by kernel_rfl⟩
theorem tok108 : Wk.TOk Try.prog 108 ⟨.func, 1, 8, [Go.Value.nilFunc]⟩ := ⟨⟨Try.t108, _, by kernel_rfl, rfl, rfl, rfl, by kernel_rfl⟩, ⟨_, _, _, Try.underlying108⟩, by kernel_rfl⟩
theorem tok109 : Wk.TOk Try.prog 109 ⟨.func, 1, 8, [Go.Value.nilFunc]⟩ := ⟨⟨Try.t109, _, by kernel_rfl, rfl, rfl, rfl, by kernel_rfl⟩, ⟨_, _, _, Try.underlying109⟩, by kernel_rfl⟩
theorem tok110 : Wk.TOk Try.prog 110 ⟨.func, 1, 8, [Go.Value.nilFunc]⟩ := ⟨⟨Try.t110, _, by kernel_rfl, rfl, rfl, rfl, by kernel_rfl⟩, ⟨_, _, _, Try.underlying110⟩, by kernel_rfl⟩
theorem tok111 : Wk.TOk Try.prog 111 ⟨.func, 1, 8, [Go.Value.nilFunc]⟩ := ⟨⟨Try.t111, _, by kernel_rfl, rfl, rfl, rfl, by kernel_rfl⟩, ⟨_, _, _, Try.underlying111⟩, by kernel_rfl⟩
theorem tok112 : Wk.TOk Try.prog 112 ⟨.func, 1, 8, [Go.Value.nilFunc]⟩ := ⟨⟨Try.t112, _, by kernel_rfl, rfl, rfl, rfl, by kernel_rfl⟩, ⟨_, _, _, Try.underlying112⟩, by kernel_rfl⟩
theorem tok113 : Wk.TOk Try.prog 113 ⟨.func, 1, 8, [Go.Value.nilFunc]⟩ := ⟨⟨Try.t113, _, by kernel_rfl, rfl, rfl, rfl, by kernel_rfl⟩, ⟨_, _, _, Try.underlying113⟩, by kernel_rfl⟩
theorem tok114 : Wk.TOk Try.prog 114 ⟨.func, 1, 8, [Go.Value.nilFunc]⟩ := ⟨⟨Try.t114, _, by kernel_rfl, rfl, rfl, rfl, by kernel_rfl⟩, ⟨_, _, _, Try.underlying114⟩, by kernel_rfl⟩
theorem tok115 : Wk.TOk Try.prog 115 ⟨.ptr 117, 1, 8, [(Go.Value.pointer none)]⟩ := ⟨⟨Try.t115, _, by kernel_rfl, rfl, rfl, rfl, by kernel_rfl⟩, Try.underlying115, by kernel_rfl⟩
theorem tok116 : Wk.TOk Try.prog 116 ⟨.strct [(0, 1, 115), (1, 1, 66)], 2, 32, [(Go.Value.pointer none), (Go.Value.slice none 0 0)]⟩ := ⟨⟨Try.t116, _, by kernel_rfl, rfl, rfl, rfl, by kernel_rfl⟩, ⟨_, Try.underlying116, by kernel_rfl, Try.stoodInHeld116, by kernel_rfl⟩, by kernel_rfl⟩
theorem tok117 : Wk.TOk Try.prog 117 ⟨.strct [(0, 1, 115), (1, 1, 66)], 2, 32, [(Go.Value.pointer none), (Go.Value.slice none 0 0)]⟩ := ⟨⟨Try.t117, _, by kernel_rfl, rfl, rfl, rfl, by kernel_rfl⟩, ⟨_, Try.underlying117, by kernel_rfl, Try.stoodInHeld117, by kernel_rfl⟩, by kernel_rfl⟩
theorem tok118 : Wk.TOk Try.prog 118 ⟨.iface, 1, 16, [Go.Value.nilIface]⟩ := ⟨⟨Try.t118, _, by kernel_rfl, rfl, rfl, rfl, by kernel_rfl⟩, ⟨_, Try.underlying118⟩, by kernel_rfl⟩
theorem tok119 : Wk.TOk Try.prog 119 ⟨.iface, 1, 16, [Go.Value.nilIface]⟩ := ⟨⟨Try.t119, _, by kernel_rfl, rfl, rfl, rfl, by kernel_rfl⟩, ⟨_, Try.underlying119⟩, by kernel_rfl⟩
theorem tok121 : Wk.TOk Try.prog 121 ⟨.func, 1, 8, [Go.Value.nilFunc]⟩ := ⟨⟨Try.t121, _, by kernel_rfl, rfl, rfl, rfl, by kernel_rfl⟩, ⟨_, _, _, Try.underlying121⟩, by kernel_rfl⟩
theorem tok122 : Wk.TOk Try.prog 122 ⟨.func, 1, 8, [Go.Value.nilFunc]⟩ := ⟨⟨Try.t122, _, by kernel_rfl, rfl, rfl, rfl, by kernel_rfl⟩, ⟨_, _, _, Try.underlying122⟩, by kernel_rfl⟩
theorem tok123 : Wk.TOk Try.prog 123 ⟨.func, 1, 8, [Go.Value.nilFunc]⟩ := ⟨⟨Try.t123, _, by kernel_rfl, rfl, rfl, rfl, by kernel_rfl⟩, ⟨_, _, _, Try.underlying123⟩, by kernel_rfl⟩
theorem tok124 : Wk.TOk Try.prog 124 ⟨.arr 9 5, 9, 9, [(Go.Value.int Go.IntKind.u8 0), (Go.Value.int Go.IntKind.u8 0), (Go.Value.int Go.IntKind.u8 0), (Go.Value.int Go.IntKind.u8 0), (Go.Value.int Go.IntKind.u8 0), (Go.Value.int Go.IntKind.u8 0), (Go.Value.int Go.IntKind.u8 0), (Go.Value.int Go.IntKind.u8 0), (Go.Value.int Go.IntKind.u8 0)]⟩ := ⟨⟨Try.t124, _, by kernel_rfl, rfl, rfl, rfl, by kernel_rfl⟩, Try.underlying124, by kernel_rfl⟩
theorem tok125 : Wk.TOk Try.prog 125 ⟨.func, 1, 8, [Go.Value.nilFunc]⟩ := ⟨⟨Try.t125, _, by kernel_rfl, rfl, rfl, rfl, by kernel_rfl⟩, ⟨_, _, _, Try.underlying125⟩, by kernel_rfl⟩
theorem tok126 : Wk.TOk Try.prog 126 ⟨.func, 1, 8, [Go.Value.nilFunc]⟩ := ⟨⟨Try.t126, _, by kernel_rfl, rfl, rfl, rfl, by kernel_rfl⟩, ⟨_, _, _, Try.underlying126⟩, by kernel_rfl⟩
theorem tok127 : Wk.TOk Try.prog 127 ⟨.strct [(0, 1, 3), (1, 1, 4), (2, 1, 4), (3, 1, 4), (4, 1, 126)], 5, 24, [(Go.Value.int Go.IntKind.i64 0), (Go.Value.bool false), (Go.Value.bool false), (Go.Value.bool false), Go.Value.nilFunc]⟩ := ⟨⟨Try.t127, _, by kernel_rfl, rfl, rfl, rfl, by kernel_rfl⟩, ⟨_, Try.underlying127, by kernel_rfl, Try.stoodInHeld127, by kernel_rfl⟩, by kernel_rfl⟩
theorem tok128 : Wk.TOk Try.prog 128 ⟨.strct [(0, 1, 3), (1, 1, 4), (2, 1, 4), (3, 1, 4), (4, 1, 126)], 5, 24, [(Go.Value.int Go.IntKind.i64 0), (Go.Value.bool false), (Go.Value.bool false), (Go.Value.bool false), Go.Value.nilFunc]⟩ := ⟨⟨Try.t128, _, by kernel_rfl, rfl, rfl, rfl, by kernel_rfl⟩, ⟨_, Try.underlying128, by kernel_rfl, Try.stoodInHeld128, by kernel_rfl⟩, by kernel_rfl⟩
theorem tok130 : Wk.TOk Try.prog 130 ⟨.map 5 128, 1, 8, [(Go.Value.map none)]⟩ := ⟨⟨Try.t130, _, by kernel_rfl, rfl, rfl, rfl, by kernel_rfl⟩, Try.underlying130, by kernel_rfl⟩
theorem tok131 : Wk.TOk Try.prog 131 ⟨.func, 1, 8, [Go.Value.nilFunc]⟩ := ⟨⟨Try.t131, _, by kernel_rfl, rfl, rfl, rfl, by kernel_rfl⟩, ⟨_, _, _, Try.underlying131⟩, by kernel_rfl⟩
theorem tok132 : Wk.TOk Try.prog 132 ⟨.func, 1, 8, [Go.Value.nilFunc]⟩ := ⟨⟨Try.t132, _, by kernel_rfl, rfl, rfl, rfl, by kernel_rfl⟩, ⟨_, _, _, Try.underlying132⟩, by kernel_rfl⟩
theorem tok134 : Wk.TOk Try.prog 134 ⟨.func, 1, 8, [Go.Value.nilFunc]⟩ := ⟨⟨Try.t134, _, by kernel_rfl, rfl, rfl, rfl, by kernel_rfl⟩, ⟨_, _, _, Try.underlying134⟩, by kernel_rfl⟩
theorem tok135 : Wk.TOk Try.prog 135 ⟨.strct [(0, 1, 31)], 1, 8, [(Go.Value.int Go.IntKind.i64 0)]⟩ := ⟨⟨Try.t135, _, by kernel_rfl, rfl, rfl, rfl, by kernel_rfl⟩, ⟨_, Try.underlying135, by kernel_rfl, Try.stoodInHeld135, by kernel_rfl⟩, by kernel_rfl⟩
theorem tok136 : Wk.TOk Try.prog 136 ⟨.strct [(0, 1, 31)], 1, 8, [(Go.Value.int Go.IntKind.i64 0)]⟩ := ⟨⟨Try.t136, _, by kernel_rfl, rfl, rfl, rfl, by kernel_rfl⟩, ⟨_, Try.underlying136, by kernel_rfl, Try.stoodInHeld136, by kernel_rfl⟩, by kernel_rfl⟩
theorem tok139 : Wk.TOk Try.prog 139 ⟨.func, 1, 8, [Go.Value.nilFunc]⟩ := ⟨⟨Try.t139, _, by kernel_rfl, rfl, rfl, rfl, by kernel_rfl⟩, ⟨_, _, _, Try.underlying139⟩, by kernel_rfl⟩
theorem tok140 : Wk.TOk Try.prog 140 ⟨.func, 1, 8, [Go.Value.nilFunc]⟩ := ⟨⟨Try.t140, _, by kernel_rfl, rfl, rfl, rfl, by kernel_rfl⟩, ⟨_, _, _, Try.underlying140⟩, by kernel_rfl⟩
theorem tok141 : Wk.TOk Try.prog 141 ⟨.ptr 5, 1, 8, [(Go.Value.pointer none)]⟩ := ⟨⟨Try.t141, _, by kernel_rfl, rfl, rfl, rfl, by kernel_rfl⟩, Try.underlying141, by kernel_rfl⟩
theorem tok142 : Wk.TOk Try.prog 142 ⟨.func, 1, 8, [Go.Value.nilFunc]⟩ := ⟨⟨Try.t142, _, by kernel_rfl, rfl, rfl, rfl, by kernel_rfl⟩, ⟨_, _, _, Try.underlying142⟩, by kernel_rfl⟩
theorem tok143 : Wk.TOk Try.prog 143 ⟨.func, 1, 8, [Go.Value.nilFunc]⟩ := ⟨⟨Try.t143, _, by kernel_rfl, rfl, rfl, rfl, by kernel_rfl⟩, ⟨_, _, _, Try.underlying143⟩, by kernel_rfl⟩
theorem tok144 : Wk.TOk Try.prog 144 ⟨.func, 1, 8, [Go.Value.nilFunc]⟩ := ⟨⟨Try.t144, _, by kernel_rfl, rfl, rfl, rfl, by kernel_rfl⟩, ⟨_, _, _, Try.underlying144⟩, by kernel_rfl⟩
theorem tok145 : Wk.TOk Try.prog 145 ⟨.func, 1, 8, [Go.Value.nilFunc]⟩ := ⟨⟨Try.t145, _, by kernel_rfl, rfl, rfl, rfl, by kernel_rfl⟩, ⟨_, _, _, Try.underlying145⟩, by kernel_rfl⟩
theorem tok147 : Wk.TOk Try.prog 147 ⟨.func, 1, 8, [Go.Value.nilFunc]⟩ := ⟨⟨Try.t147, _, by kernel_rfl, rfl, rfl, rfl, by kernel_rfl⟩, ⟨_, _, _, Try.underlying147⟩, by kernel_rfl⟩
theorem tok148 : Wk.TOk Try.prog 148 ⟨.func, 1, 8, [Go.Value.nilFunc]⟩ := ⟨⟨Try.t148, _, by kernel_rfl, rfl, rfl, rfl, by kernel_rfl⟩, ⟨_, _, _, Try.underlying148⟩, by kernel_rfl⟩
theorem tok149 : Wk.TOk Try.prog 149 ⟨.func, 1, 8, [Go.Value.nilFunc]⟩ := ⟨⟨Try.t149, _, by kernel_rfl, rfl, rfl, rfl, by kernel_rfl⟩, ⟨_, _, _, Try.underlying149⟩, by kernel_rfl⟩
theorem tok152 : Wk.TOk Try.prog 152 ⟨.arr 0 16, 0, 0, []⟩ := ⟨⟨Try.t152, _, by kernel_rfl, rfl, rfl, rfl, by kernel_rfl⟩, Try.underlying152, by kernel_rfl⟩
theorem tok155 : Wk.TOk Try.prog 155 ⟨.int Go.IntKind.u32, 1, 4, [(Go.Value.int Go.IntKind.u32 0)]⟩ := ⟨⟨Try.t155, _, by kernel_rfl, rfl, rfl, rfl, by kernel_rfl⟩, Try.underlying155, by kernel_rfl⟩
theorem tok156 : Wk.TOk Try.prog 156 ⟨.int Go.IntKind.u8, 1, 1, [(Go.Value.int Go.IntKind.u8 0)]⟩ := ⟨⟨Try.t156, _, by kernel_rfl, rfl, rfl, rfl, by kernel_rfl⟩, Try.underlying156, by kernel_rfl⟩
theorem tok157 : Wk.TOk Try.prog 157 ⟨.int Go.IntKind.u8, 1, 1, [(Go.Value.int Go.IntKind.u8 0)]⟩ := ⟨⟨Try.t157, _, by kernel_rfl, rfl, rfl, rfl, by kernel_rfl⟩, Try.underlying157, by kernel_rfl⟩
theorem tok158 : Wk.TOk Try.prog 158 ⟨.func, 1, 8, [Go.Value.nilFunc]⟩ := ⟨⟨Try.t158, _, by kernel_rfl, rfl, rfl, rfl, by kernel_rfl⟩, ⟨_, _, _, Try.underlying158⟩, by kernel_rfl⟩
theorem tok159 : Wk.TOk Try.prog 159 ⟨.int Go.IntKind.i32, 1, 4, [(Go.Value.int Go.IntKind.i32 0)]⟩ := ⟨⟨Try.t159, _, by kernel_rfl, rfl, rfl, rfl, by kernel_rfl⟩, Try.underlying159, by kernel_rfl⟩
theorem tok160 : Wk.TOk Try.prog 160 ⟨.int Go.IntKind.i32, 1, 4, [(Go.Value.int Go.IntKind.i32 0)]⟩ := ⟨⟨Try.t160, _, by kernel_rfl, rfl, rfl, rfl, by kernel_rfl⟩, Try.underlying160, by kernel_rfl⟩
theorem tok163 : Wk.TOk Try.prog 163 ⟨.func, 1, 8, [Go.Value.nilFunc]⟩ := ⟨⟨Try.t163, _, by kernel_rfl, rfl, rfl, rfl, by kernel_rfl⟩, ⟨_, _, _, Try.underlying163⟩, by kernel_rfl⟩
theorem tok164 : Wk.TOk Try.prog 164 ⟨.ptr 175, 1, 8, [(Go.Value.pointer none)]⟩ := ⟨⟨Try.t164, _, by kernel_rfl, rfl, rfl, rfl, by kernel_rfl⟩, Try.underlying164, by kernel_rfl⟩
theorem tok165 : Wk.TOk Try.prog 165 ⟨.func, 1, 8, [Go.Value.nilFunc]⟩ := ⟨⟨Try.t165, _, by kernel_rfl, rfl, rfl, rfl, by kernel_rfl⟩, ⟨_, _, _, Try.underlying165⟩, by kernel_rfl⟩
theorem tok166 : Wk.TOk Try.prog 166 ⟨.ptr 182, 1, 8, [(Go.Value.pointer none)]⟩ := ⟨⟨Try.t166, _, by kernel_rfl, rfl, rfl, rfl, by kernel_rfl⟩, Try.underlying166, by kernel_rfl⟩
theorem tok167 : Wk.TOk Try.prog 167 ⟨.func, 1, 8, [Go.Value.nilFunc]⟩ := ⟨⟨Try.t167, _, by kernel_rfl, rfl, rfl, rfl, by kernel_rfl⟩, ⟨_, _, _, Try.underlying167⟩, by kernel_rfl⟩
theorem tok168 : Wk.TOk Try.prog 168 ⟨.strct [(0, 1, 166), (1, 1, 166)], 2, 16, [(Go.Value.pointer none), (Go.Value.pointer none)]⟩ := ⟨⟨Try.t168, _, by kernel_rfl, rfl, rfl, rfl, by kernel_rfl⟩, ⟨_, Try.underlying168, by kernel_rfl, Try.stoodInHeld168, by kernel_rfl⟩, by kernel_rfl⟩
theorem tok169 : Wk.TOk Try.prog 169 ⟨.strct [(0, 1, 166), (1, 1, 166)], 2, 16, [(Go.Value.pointer none), (Go.Value.pointer none)]⟩ := ⟨⟨Try.t169, _, by kernel_rfl, rfl, rfl, rfl, by kernel_rfl⟩, ⟨_, Try.underlying169, by kernel_rfl, Try.stoodInHeld169, by kernel_rfl⟩, by kernel_rfl⟩
theorem tok170 : Wk.TOk Try.prog 170 ⟨.func, 1, 8, [Go.Value.nilFunc]⟩ := ⟨⟨Try.t170, _, by kernel_rfl, rfl, rfl, rfl, by kernel_rfl⟩, ⟨_, _, _, Try.underlying170⟩, by kernel_rfl⟩
theorem tok171 : Wk.TOk Try.prog 171 ⟨.func, 1, 8, [Go.Value.nilFunc]⟩ := ⟨⟨Try.t171, _, by kernel_rfl, rfl, rfl, rfl, by kernel_rfl⟩, ⟨_, _, _, Try.underlying171⟩, by kernel_rfl⟩
theorem tok172 : Wk.TOk Try.prog 172 ⟨.arr 8 155, 8, 32, [(Go.Value.int Go.IntKind.u32 0), (Go.Value.int Go.IntKind.u32 0), (Go.Value.int Go.IntKind.u32 0), (Go.Value.int Go.IntKind.u32 0), (Go.Value.int Go.IntKind.u32 0), (Go.Value.int Go.IntKind.u32 0), (Go.Value.int Go.IntKind.u32 0), (Go.Value.int Go.IntKind.u32 0)]⟩ := ⟨⟨Try.t172, _, by kernel_rfl, rfl, rfl, rfl, by kernel_rfl⟩, Try.underlying172, by kernel_rfl⟩
theorem tok173 : Wk.TOk Try.prog 173 ⟨.arr 64 5, 64, 64, [(Go.Value.int Go.IntKind.u8 0), (Go.Value.int Go.IntKind.u8 0), (Go.Value.int Go.IntKind.u8 0), (Go.Value.int Go.IntKind.u8 0), (Go.Value.int Go.IntKind.u8 0), (Go.Value.int Go.IntKind.u8 0), (Go.Value.int Go.IntKind.u8 0), (Go.Value.int Go.IntKind.u8 0), (Go.Value.int Go.IntKind.u8 0), (Go.Value.int Go.IntKind.u8 0), (Go.Value.int Go.IntKind.u8 0), (Go.Value.int Go.IntKind.u8 0), (Go.Value.int Go.IntKind.u8 0), (Go.Value.int Go.IntKind.u8 0), (Go.Value.int Go.IntKind.u8 0), (Go.Value.int Go.IntKind.u8 0), (Go.Value.int Go.IntKind.u8 0), (Go.Value.int Go.IntKind.u8 0), (Go.Value.int Go.IntKind.u8 0), (Go.Value.int Go.IntKind.u8 0), (Go.Value.int Go.IntKind.u8 0), (Go.Value.int Go.IntKind.u8 0), (Go.Value.int Go.IntKind.u8 0), (Go.Value.int Go.IntKind.u8 0), (Go.Value.int Go.IntKind.u8 0), (Go.Value.int Go.IntKind.u8 0), (Go.Value.int Go.IntKind.u8 0), (Go.Value.int Go.IntKind.u8 0), (Go.Value.int Go.IntKind.u8 0), (Go.Value.int Go.IntKind.u8 0), (Go.Value.int Go.IntKind.u8 0), (Go.Value.int Go.IntKind.u8 0), (Go.Value.int Go.IntKind.u8 0), (Go.Value.int Go.IntKind.u8 0), (Go.Value.int Go.IntKind.u8 0), (Go.Value.int Go.IntKind.u8 0), (Go.Value.int Go.IntKind.u8 0), (Go.Value.int Go.IntKind.u8 0), (Go.Value.int Go.IntKind.u8 0), (Go.Value.int Go.IntKind.u8 0), (Go.Value.int Go.IntKind.u8 0), (Go.Value.int Go.IntKind.u8 0), (Go.Value.int Go.IntKind.u8 0), (Go.Value.int Go.IntKind.u8 0), (Go.Value.int Go.IntKind.u8 0), (Go.Value.int Go.IntKind.u8 0), (Go.Value.int Go.IntKind.u8 0), (Go.Value.int Go.IntKind.u8 0), (Go.Value.int Go.IntKind.u8 0), (Go.Value.int Go.IntKind.u8 0), (Go.Value.int Go.IntKind.u8 0), (Go.Value.int Go.IntKind.u8 0), (Go.Value.int Go.IntKind.u8 0), (Go.Value.int Go.IntKind.u8 0), (Go.Value.int Go.IntKind.u8 0), (Go.Value.int Go.IntKind.u8 0), (Go.Value.int Go.IntKind.u8 0), (Go.Value.int Go.IntKind.u8 0), (Go.Value.int Go.IntKind.u8 0), (Go.Value.int Go.IntKind.u8 0), (Go.Value.int Go.IntKind.u8 0), (Go.Value.int Go.IntKind.u8 0), (Go.Value.int Go.IntKind.u8 0), (Go.Value.int Go.IntKind.u8 0)]⟩ := ⟨⟨Try.t173, _, by kernel_rfl, rfl, rfl, rfl, by kernel_rfl⟩, Try.underlying173, by kernel_rfl⟩
theorem tok174 : Wk.TOk Try.prog 174 ⟨.strct [(0, 8, 172), (8, 64, 173), (72, 1, 3)], 73, 104, [(Go.Value.int Go.IntKind.u32 0), (Go.Value.int Go.IntKind.u32 0), (Go.Value.int Go.IntKind.u32 0), (Go.Value.int Go.IntKind.u32 0), (Go.Value.int Go.IntKind.u32 0), (Go.Value.int Go.IntKind.u32 0), (Go.Value.int Go.IntKind.u32 0), (Go.Value.int Go.IntKind.u32 0), (Go.Value.int Go.IntKind.u8 0), (Go.Value.int Go.IntKind.u8 0), (Go.Value.int Go.IntKind.u8 0), (Go.Value.int Go.IntKind.u8 0), (Go.Value.int Go.IntKind.u8 0), (Go.Value.int Go.IntKind.u8 0), (Go.Value.int Go.IntKind.u8 0), (Go.Value.int Go.IntKind.u8 0), (Go.Value.int Go.IntKind.u8 0), (Go.Value.int Go.IntKind.u8 0), (Go.Value.int Go.IntKind.u8 0), (Go.Value.int Go.IntKind.u8 0), (Go.Value.int Go.IntKind.u8 0), (Go.Value.int Go.IntKind.u8 0), (Go.Value.int Go.IntKind.u8 0), (Go.Value.int Go.IntKind.u8 0), (Go.Value.int Go.IntKind.u8 0), (Go.Value.int Go.IntKind.u8 0), (Go.Value.int Go.IntKind.u8 0), (Go.Value.int Go.IntKind.u8 0), (Go.Value.int Go.IntKind.u8 0), (Go.Value.int Go.IntKind.u8 0), (Go.Value.int Go.IntKind.u8 0), (Go.Value.int Go.IntKind.u8 0), (Go.Value.int Go.IntKind.u8 0), (Go.Value.int Go.IntKind.u8 0), (Go.Value.int Go.IntKind.u8 0), (Go.Value.int Go.IntKind.u8 0), (Go.Value.int Go.IntKind.u8 0), (Go.Value.int Go.IntKind.u8 0), (Go.Value.int Go.IntKind.u8 0), (Go.Value.int Go.IntKind.u8 0), (Go.Value.int Go.IntKind.u8 0), (Go.Value.int Go.IntKind.u8 0), (Go.Value.int Go.IntKind.u8 0), (Go.Value.int Go.IntKind.u8 0), (Go.Value.int Go.IntKind.u8 0), (Go.Value.int Go.IntKind.u8 0), (Go.Value.int Go.IntKind.u8 0), (Go.Value.int Go.IntKind.u8 0), (Go.Value.int Go.IntKind.u8 0), (Go.Value.int Go.IntKind.u8 0), (Go.Value.int Go.IntKind.u8 0), (Go.Value.int Go.IntKind.u8 0), (Go.Value.int Go.IntKind.u8 0), (Go.Value.int Go.IntKind.u8 0), (Go.Value.int Go.IntKind.u8 0), (Go.Value.int Go.IntKind.u8 0), (Go.Value.int Go.IntKind.u8 0), (Go.Value.int Go.IntKind.u8 0), (Go.Value.int Go.IntKind.u8 0), (Go.Value.int Go.IntKind.u8 0), (Go.Value.int Go.IntKind.u8 0), (Go.Value.int Go.IntKind.u8 0), (Go.Value.int Go.IntKind.u8 0), (Go.Value.int Go.IntKind.u8 0), (Go.Value.int Go.IntKind.u8 0), (Go.Value.int Go.IntKind.u8 0), (Go.Value.int Go.IntKind.u8 0), (Go.Value.int Go.IntKind.u8 0), (Go.Value.int Go.IntKind.u8 0), (Go.Value.int Go.IntKind.u8 0), (Go.Value.int Go.IntKind.u8 0), (Go.Value.int Go.IntKind.u8 0), (Go.Value.int Go.IntKind.i64 0)]⟩ := ⟨⟨Try.t174, _, by kernel_rfl, rfl, rfl, rfl, by kernel_rfl⟩, ⟨_, Try.underlying174, by kernel_rfl, Try.stoodInHeld174, by kernel_rfl⟩, by kernel_rfl⟩
theorem tok175 : Wk.TOk Try.prog 175 ⟨.strct [(0, 8, 172), (8, 64, 173), (72, 1, 3)], 73, 104, [(Go.Value.int Go.IntKind.u32 0), (Go.Value.int Go.IntKind.u32 0), (Go.Value.int Go.IntKind.u32 0), (Go.Value.int Go.IntKind.u32 0), (Go.Value.int Go.IntKind.u32 0), (Go.Value.int Go.IntKind.u32 0), (Go.Value.int Go.IntKind.u32 0), (Go.Value.int Go.IntKind.u32 0), (Go.Value.int Go.IntKind.u8 0), (Go.Value.int Go.IntKind.u8 0), (Go.Value.int Go.IntKind.u8 0), (Go.Value.int Go.IntKind.u8 0), (Go.Value.int Go.IntKind.u8 0), (Go.Value.int Go.IntKind.u8 0), (Go.Value.int Go.IntKind.u8 0), (Go.Value.int Go.IntKind.u8 0), (Go.Value.int Go.IntKind.u8 0), (Go.Value.int Go.IntKind.u8 0), (Go.Value.int Go.IntKind.u8 0), (Go.Value.int Go.IntKind.u8 0), (Go.Value.int Go.IntKind.u8 0), (Go.Value.int Go.IntKind.u8 0), (Go.Value.int Go.IntKind.u8 0), (Go.Value.int Go.IntKind.u8 0), (Go.Value.int Go.IntKind.u8 0), (Go.Value.int Go.IntKind.u8 0), (Go.Value.int Go.IntKind.u8 0), (Go.Value.int Go.IntKind.u8 0), (Go.Value.int Go.IntKind.u8 0), (Go.Value.int Go.IntKind.u8 0), (Go.Value.int Go.IntKind.u8 0), (Go.Value.int Go.IntKind.u8 0), (Go.Value.int Go.IntKind.u8 0), (Go.Value.int Go.IntKind.u8 0), (Go.Value.int Go.IntKind.u8 0), (Go.Value.int Go.IntKind.u8 0), (Go.Value.int Go.IntKind.u8 0), (Go.Value.int Go.IntKind.u8 0), (Go.Value.int Go.IntKind.u8 0), (Go.Value.int Go.IntKind.u8 0), (Go.Value.int Go.IntKind.u8 0), (Go.Value.int Go.IntKind.u8 0), (Go.Value.int Go.IntKind.u8 0), (Go.Value.int Go.IntKind.u8 0), (Go.Value.int Go.IntKind.u8 0), (Go.Value.int Go.IntKind.u8 0), (Go.Value.int Go.IntKind.u8 0), (Go.Value.int Go.IntKind.u8 0), (Go.Value.int Go.IntKind.u8 0), (Go.Value.int Go.IntKind.u8 0), (Go.Value.int Go.IntKind.u8 0), (Go.Value.int Go.IntKind.u8 0), (Go.Value.int Go.IntKind.u8 0), (Go.Value.int Go.IntKind.u8 0), (Go.Value.int Go.IntKind.u8 0), (Go.Value.int Go.IntKind.u8 0), (Go.Value.int Go.IntKind.u8 0), (Go.Value.int Go.IntKind.u8 0), (Go.Value.int Go.IntKind.u8 0), (Go.Value.int Go.IntKind.u8 0), (Go.Value.int Go.IntKind.u8 0), (Go.Value.int Go.IntKind.u8 0), (Go.Value.int Go.IntKind.u8 0), (Go.Value.int Go.IntKind.u8 0), (Go.Value.int Go.IntKind.u8 0), (Go.Value.int Go.IntKind.u8 0), (Go.Value.int Go.IntKind.u8 0), (Go.Value.int Go.IntKind.u8 0), (Go.Value.int Go.IntKind.u8 0), (Go.Value.int Go.IntKind.u8 0), (Go.Value.int Go.IntKind.u8 0), (Go.Value.int Go.IntKind.u8 0), (Go.Value.int Go.IntKind.i64 0)]⟩ := ⟨⟨Try.t175, _, by kernel_rfl, rfl, rfl, rfl, by kernel_rfl⟩, ⟨_, Try.underlying175, by kernel_rfl, Try.stoodInHeld175, by kernel_rfl⟩, by kernel_rfl⟩
theorem tok176 : Wk.TOk Try.prog 176 ⟨.func, 1, 8, [Go.Value.nilFunc]⟩ := ⟨⟨Try.t176, _, by kernel_rfl, rfl, rfl, rfl, by kernel_rfl⟩, ⟨_, _, _, Try.underlying176⟩, by kernel_rfl⟩
theorem tok177 : Wk.TOk Try.prog 177 ⟨.func, 1, 8, [Go.Value.nilFunc]⟩ := ⟨⟨Try.t177, _, by kernel_rfl, rfl, rfl, rfl, by kernel_rfl⟩, ⟨_, _, _, Try.underlying177⟩, by kernel_rfl⟩
theorem tok178 : Wk.TOk Try.prog 178 ⟨.strct [(0, 1, 164)], 1, 8, [(Go.Value.pointer none)]⟩ := ⟨⟨Try.t178, _, by kernel_rfl, rfl, rfl, rfl, by kernel_rfl⟩, ⟨_, Try.underlying178, by kernel_rfl, Try.stoodInHeld178, by kernel_rfl⟩, by kernel_rfl⟩
theorem tok179 : Wk.TOk Try.prog 179 ⟨.strct [(0, 1, 164)], 1, 8, [(Go.Value.pointer none)]⟩ := ⟨⟨Try.t179, _, by kernel_rfl, rfl, rfl, rfl, by kernel_rfl⟩, ⟨_, Try.underlying179, by kernel_rfl, Try.stoodInHeld179, by kernel_rfl⟩, by kernel_rfl⟩
theorem tok180 : Wk.TOk Try.prog 180 ⟨.func, 1, 8, [Go.Value.nilFunc]⟩ := ⟨⟨Try.t180, _, by kernel_rfl, rfl, rfl, rfl, by kernel_rfl⟩, ⟨_, _, _, Try.underlying180⟩, by kernel_rfl⟩
theorem tok181 : Wk.TOk Try.prog 181 ⟨.strct [(0, 1, 179), (1, 1, 179)], 2, 16, [(Go.Value.pointer none), (Go.Value.pointer none)]⟩ := ⟨⟨Try.t181, _, by kernel_rfl, rfl, rfl, rfl, by kernel_rfl⟩, ⟨_, Try.underlying181, by kernel_rfl, Try.stoodInHeld181, by kernel_rfl⟩, by kernel_rfl⟩
theorem tok182 : Wk.TOk Try.prog 182 ⟨.strct [(0, 1, 179), (1, 1, 179)], 2, 16, [(Go.Value.pointer none), (Go.Value.pointer none)]⟩ := ⟨⟨Try.t182, _, by kernel_rfl, rfl, rfl, rfl, by kernel_rfl⟩, ⟨_, Try.underlying182, by kernel_rfl, Try.stoodInHeld182, by kernel_rfl⟩, by kernel_rfl⟩
theorem tok183 : Wk.TOk Try.prog 183 ⟨.func, 1, 8, [Go.Value.nilFunc]⟩ := ⟨⟨Try.t183, _, by kernel_rfl, rfl, rfl, rfl, by kernel_rfl⟩, ⟨_, _, _, Try.underlying183⟩, by kernel_rfl⟩
theorem tok184 : Wk.TOk Try.prog 184 ⟨.func, 1, 8, [Go.Value.nilFunc]⟩ := ⟨⟨Try.t184, _, by kernel_rfl, rfl, rfl, rfl, by kernel_rfl⟩, ⟨_, _, _, Try.underlying184⟩, by kernel_rfl⟩
theorem tok185 : Wk.TOk Try.prog 185 ⟨.arr 16 155, 16, 64, [(Go.Value.int Go.IntKind.u32 0), (Go.Value.int Go.IntKind.u32 0), (Go.Value.int Go.IntKind.u32 0), (Go.Value.int Go.IntKind.u32 0), (Go.Value.int Go.IntKind.u32 0), (Go.Value.int Go.IntKind.u32 0), (Go.Value.int Go.IntKind.u32 0), (Go.Value.int Go.IntKind.u32 0), (Go.Value.int Go.IntKind.u32 0), (Go.Value.int Go.IntKind.u32 0), (Go.Value.int Go.IntKind.u32 0), (Go.Value.int Go.IntKind.u32 0), (Go.Value.int Go.IntKind.u32 0), (Go.Value.int Go.IntKind.u32 0), (Go.Value.int Go.IntKind.u32 0), (Go.Value.int Go.IntKind.u32 0)]⟩ := ⟨⟨Try.t185, _, by kernel_rfl, rfl, rfl, rfl, by kernel_rfl⟩, Try.underlying185, by kernel_rfl⟩
theorem tok186 : Wk.TOk Try.prog 186 ⟨.arr 64 155, 64, 256, [(Go.Value.int Go.IntKind.u32 0), (Go.Value.int Go.IntKind.u32 0), (Go.Value.int Go.IntKind.u32 0), (Go.Value.int Go.IntKind.u32 0), (Go.Value.int Go.IntKind.u32 0), (Go.Value.int Go.IntKind.u32 0), (Go.Value.int Go.IntKind.u32 0), (Go.Value.int Go.IntKind.u32 0), (Go.Value.int Go.IntKind.u32 0), (Go.Value.int Go.IntKind.u32 0), (Go.Value.int Go.IntKind.u32 0), (Go.Value.int Go.IntKind.u32 0), (Go.Value.int Go.IntKind.u32 0), (Go.Value.int Go.IntKind.u32 0), (Go.Value.int Go.IntKind.u32 0), (Go.Value.int Go.IntKind.u32 0), (Go.Value.int Go.IntKind.u32 0), (Go.Value.int Go.IntKind.u32 0), (Go.Value.int Go.IntKind.u32 0), (Go.Value.int Go.IntKind.u32 0), (Go.Value.int Go.IntKind.u32 0), (Go.Value.int Go.IntKind.u32 0), (Go.Value.int Go.IntKind.u32 0), (Go.Value.int Go.IntKind.u32 0), (Go.Value.int Go.IntKind.u32 0), (Go.Value.int Go.IntKind.u32 0), (Go.Value.int Go.IntKind.u32 0), (Go.Value.int Go.IntKind.u32 0), (Go.Value.int Go.IntKind.u32 0), (Go.Value.int Go.IntKind.u32 0), (Go.Value.int Go.IntKind.u32 0), (Go.Value.int Go.IntKind.u32 0), (Go.Value.int Go.IntKind.u32 0), (Go.Value.int Go.IntKind.u32 0), (Go.Value.int Go.IntKind.u32 0), (Go.Value.int Go.IntKind.u32 0), (Go.Value.int Go.IntKind.u32 0), (Go.Value.int Go.IntKind.u32 0), (Go.Value.int Go.IntKind.u32 0), (Go.Value.int Go.IntKind.u32 0), (Go.Value.int Go.IntKind.u32 0), (Go.Value.int Go.IntKind.u32 0), (Go.Value.int Go.IntKind.u32 0), (Go.Value.int Go.IntKind.u32 0), (Go.Value.int Go.IntKind.u32 0), (Go.Value.int Go.IntKind.u32 0), (Go.Value.int Go.IntKind.u32 0), (Go.Value.int Go.IntKind.u32 0), (Go.Value.int Go.IntKind.u32 0), (Go.Value.int Go.IntKind.u32 0), (Go.Value.int Go.IntKind.u32 0), (Go.Value.int Go.IntKind.u32 0), (Go.Value.int Go.IntKind.u32 0), (Go.Value.int Go.IntKind.u32 0), (Go.Value.int Go.IntKind.u32 0), (Go.Value.int Go.IntKind.u32 0), (Go.Value.int Go.IntKind.u32 0), (Go.Value.int Go.IntKind.u32 0), (Go.Value.int Go.IntKind.u32 0), (Go.Value.int Go.IntKind.u32 0), (Go.Value.int Go.IntKind.u32 0), (Go.Value.int Go.IntKind.u32 0), (Go.Value.int Go.IntKind.u32 0), (Go.Value.int Go.IntKind.u32 0)]⟩ := ⟨⟨Try.t186, _, by kernel_rfl, rfl, rfl, rfl, by kernel_rfl⟩, Try.underlying186, by kernel_rfl⟩
theorem tok187 : Wk.TOk Try.prog 187 ⟨.func, 1, 8, [Go.Value.nilFunc]⟩ := ⟨⟨Try.t187, _, by kernel_rfl, rfl, rfl, rfl, by kernel_rfl⟩, ⟨_, _, _, Try.underlying187⟩, by kernel_rfl⟩
theorem tok188 : Wk.TOk Try.prog 188 ⟨.func, 1, 8, [Go.Value.nilFunc]⟩ := ⟨⟨Try.t188, _, by kernel_rfl, rfl, rfl, rfl, by kernel_rfl⟩, ⟨_, _, _, Try.underlying188⟩, by kernel_rfl⟩
theorem tok189 : Wk.TOk Try.prog 189 ⟨.arr 4 5, 4, 4, [(Go.Value.int Go.IntKind.u8 0), (Go.Value.int Go.IntKind.u8 0), (Go.Value.int Go.IntKind.u8 0), (Go.Value.int Go.IntKind.u8 0)]⟩ := ⟨⟨Try.t189, _, by kernel_rfl, rfl, rfl, rfl, by kernel_rfl⟩, Try.underlying189, by kernel_rfl⟩
theorem okT : Wk.Ok Try.prog TT := Wk.ok_of TTl ⟨tok1, tok2, tok3, tok4, tok5, tok6, tok7, tok8, tok9, tok10, tok11, tok12, tok15, tok16, tok17, tok20, tok21, tok22, tok23, tok24, tok25, tok26, tok27, tok29, tok30, tok31, tok33, tok34, tok36, tok37, tok38, tok40, tok41, tok42, tok43, tok44, tok45, tok46, tok47, tok48, tok49, tok50, tok51, tok52, tok53, tok54, tok55, tok56, tok57, tok58, tok59, tok60, tok61, tok62, tok63, tok65, tok66, tok67, tok68, tok70, tok71, tok72, tok73, tok74, tok75, tok76, tok77, tok78, tok79, tok82, tok83, tok84, tok86, tok87, tok88, tok89, tok90, tok91, tok92, tok93, tok95, tok96, tok97, tok99, tok100, tok102, tok103, tok105, tok106, tok107, tok108, tok109, tok110, tok111, tok112, tok113, tok114, tok115, tok116, tok117, tok118, tok119, tok121, tok122, tok123, tok124, tok125, tok126, tok127, tok128, tok130, tok131, tok132, tok134, tok135, tok136, tok139, tok140, tok141, tok142, tok143, tok144, tok145, tok147, tok148, tok149, tok152, tok155, tok156, tok157, tok158, tok159, tok160, tok163, tok164, tok165, tok166, tok167, tok168, tok169, tok170, tok171, tok172, tok173, tok174, tok175, tok176, tok177, tok178, tok179, tok180, tok181, tok182, tok183, tok184, tok185, tok186, tok187, tok188, tok189, trivial⟩ (by kernel_rfl) (by kernel_rfl)
theorem fok14 : Wk.FOk Try.prog 14 := ⟨Try.f14, Try.func14, by kernel_rfl, by kernel_rfl⟩
theorem fok16 : Wk.FOk Try.prog 16 := ⟨Try.f16, Try.func16, by kernel_rfl, by kernel_rfl⟩
theorem fok17 : Wk.FOk Try.prog 17 := ⟨Try.f17, Try.func17, by kernel_rfl, by kernel_rfl⟩
theorem fok18 : Wk.FOk Try.prog 18 := ⟨Try.f18, Try.func18, by kernel_rfl, by kernel_rfl⟩
theorem fok19 : Wk.FOk Try.prog 19 := ⟨Try.f19, Try.func19, by kernel_rfl, by kernel_rfl⟩
theorem fok20 : Wk.FOk Try.prog 20 := ⟨Try.f20, Try.func20, by kernel_rfl, by kernel_rfl⟩
theorem fok21 : Wk.FOk Try.prog 21 := ⟨Try.f21, Try.func21, by kernel_rfl, by kernel_rfl⟩
theorem fok22 : Wk.FOk Try.prog 22 := ⟨Try.f22, Try.func22, by kernel_rfl, by kernel_rfl⟩
theorem fok23 : Wk.FOk Try.prog 23 := ⟨Try.f23, Try.func23, by kernel_rfl, by kernel_rfl⟩
theorem fok25 : Wk.FOk Try.prog 25 := ⟨Try.f25, Try.func25, by kernel_rfl, by kernel_rfl⟩
theorem fok26 : Wk.FOk Try.prog 26 := ⟨Try.f26, Try.func26, by kernel_rfl, by kernel_rfl⟩
theorem fok29 : Wk.FOk Try.prog 29 := ⟨Try.f29, Try.func29, by kernel_rfl, by kernel_rfl⟩
theorem fok30 : Wk.FOk Try.prog 30 := ⟨Try.f30, Try.func30, by kernel_rfl, by kernel_rfl⟩
theorem fok31 : Wk.FOk Try.prog 31 := ⟨Try.f31, Try.func31, by kernel_rfl, by kernel_rfl⟩
theorem fok44 : Wk.FOk Try.prog 44 := ⟨Try.f44, Try.func44, by kernel_rfl, by kernel_rfl⟩
theorem fok45 : Wk.FOk Try.prog 45 := ⟨Try.f45, Try.func45, by kernel_rfl, by kernel_rfl⟩
theorem fok46 : Wk.FOk Try.prog 46 := ⟨Try.f46, Try.func46, by kernel_rfl, by kernel_rfl⟩
theorem fok47 : Wk.FOk Try.prog 47 := ⟨Try.f47, Try.func47, by kernel_rfl, by kernel_rfl⟩
theorem fok48 : Wk.FOk Try.prog 48 := ⟨Try.f48, Try.func48, by kernel_rfl, by kernel_rfl⟩
theorem fok50 : Wk.FOk Try.prog 50 := ⟨Try.f50, Try.func50, by kernel_rfl, by kernel_rfl⟩
theorem fok51 : Wk.FOk Try.prog 51 := ⟨Try.f51, Try.func51, by kernel_rfl, by kernel_rfl⟩
theorem fok52 : Wk.FOk Try.prog 52 := ⟨Try.f52, Try.func52, by kernel_rfl, by kernel_rfl⟩
theorem fok53 : Wk.FOk Try.prog 53 := ⟨Try.f53, Try.func53, by kernel_rfl, by kernel_rfl⟩
theorem fok57 : Wk.FOk Try.prog 57 := ⟨Try.f57, Try.func57, by kernel_rfl, by kernel_rfl⟩
theorem fok61 : Wk.FOk Try.prog 61 := ⟨Try.f61, Try.func61, by kernel_rfl, by kernel_rfl⟩
theorem fok62 : Wk.FOk Try.prog 62 := ⟨Try.f62, Try.func62, by kernel_rfl, by kernel_rfl⟩
theorem fok63 : Wk.FOk Try.prog 63 := ⟨Try.f63, Try.func63, by kernel_rfl, by kernel_rfl⟩
theorem fok64 : Wk.FOk Try.prog 64 := ⟨Try.f64, Try.func64, by kernel_rfl, by kernel_rfl⟩
theorem fok65 : Wk.FOk Try.prog 65 := ⟨Try.f65, Try.func65, by kernel_rfl, by kernel_rfl⟩
theorem fok66 : Wk.FOk Try.prog 66 := ⟨Try.f66, Try.func66, by kernel_rfl, by kernel_rfl⟩
theorem fok67 : Wk.FOk Try.prog 67 := ⟨Try.f67, Try.func67, by kernel_rfl, by kernel_rfl⟩
theorem fok68 : Wk.FOk Try.prog 68 := ⟨Try.f68, Try.func68, by kernel_rfl, by kernel_rfl⟩
theorem fok69 : Wk.FOk Try.prog 69 := ⟨Try.f69, Try.func69, by kernel_rfl, by kernel_rfl⟩
theorem fok70 : Wk.FOk Try.prog 70 := ⟨Try.f70, Try.func70, by kernel_rfl, by kernel_rfl⟩
theorem fok71 : Wk.FOk Try.prog 71 := ⟨Try.f71, Try.func71, by kernel_rfl, by kernel_rfl⟩
theorem fok74 : Wk.FOk Try.prog 74 := ⟨Try.f74, Try.func74, by kernel_rfl, by kernel_rfl⟩
theorem fok78 : Wk.FOk Try.prog 78 := ⟨Try.f78, Try.func78, by kernel_rfl, by kernel_rfl⟩
theorem fok79 : Wk.FOk Try.prog 79 := ⟨Try.f79, Try.func79, by kernel_rfl, by kernel_rfl⟩
theorem fok81 : Wk.FOk Try.prog 81 := ⟨Try.f81, Try.func81, by kernel_rfl, by kernel_rfl⟩
theorem fok82 : Wk.FOk Try.prog 82 := ⟨Try.f82, Try.func82, by kernel_rfl, by kernel_rfl⟩
theorem fok94 : Wk.FOk Try.prog 94 := ⟨Try.f94, Try.func94, by kernel_rfl, by kernel_rfl⟩
theorem fok100 : Wk.FOk Try.prog 100 := ⟨Try.f100, Try.func100, by kernel_rfl, by kernel_rfl⟩
theorem fok101 : Wk.FOk Try.prog 101 := ⟨Try.f101, Try.func101, by kernel_rfl, by kernel_rfl⟩
theorem fok118 : Wk.FOk Try.prog 118 := ⟨Try.f118, Try.func118, by kernel_rfl, by kernel_rfl⟩
theorem fok119 : Wk.FOk Try.prog 119 := ⟨Try.f119, Try.func119, by kernel_rfl, by kernel_rfl⟩
theorem fok120 : Wk.FOk Try.prog 120 := ⟨Try.f120, Try.func120, by kernel_rfl, by kernel_rfl⟩
theorem fok121 : Wk.FOk Try.prog 121 := ⟨Try.f121, Try.func121, by kernel_rfl, by kernel_rfl⟩
theorem fok122 : Wk.FOk Try.prog 122 := ⟨Try.f122, Try.func122, by kernel_rfl, by kernel_rfl⟩
theorem fok123 : Wk.FOk Try.prog 123 := ⟨Try.f123, Try.func123, by kernel_rfl, by kernel_rfl⟩
theorem fok124 : Wk.FOk Try.prog 124 := ⟨Try.f124, Try.func124, by kernel_rfl, by kernel_rfl⟩
theorem fok125 : Wk.FOk Try.prog 125 := ⟨Try.f125, Try.func125, by kernel_rfl, by kernel_rfl⟩
theorem fok126 : Wk.FOk Try.prog 126 := ⟨Try.f126, Try.func126, by kernel_rfl, by kernel_rfl⟩
theorem fok127 : Wk.FOk Try.prog 127 := ⟨Try.f127, Try.func127, by kernel_rfl, by kernel_rfl⟩
theorem fok128 : Wk.FOk Try.prog 128 := ⟨Try.f128, Try.func128, by kernel_rfl, by kernel_rfl⟩
theorem fok129 : Wk.FOk Try.prog 129 := ⟨Try.f129, Try.func129, by kernel_rfl, by kernel_rfl⟩
theorem fok130 : Wk.FOk Try.prog 130 := ⟨Try.f130, Try.func130, by kernel_rfl, by kernel_rfl⟩
theorem fok131 : Wk.FOk Try.prog 131 := ⟨Try.f131, Try.func131, by kernel_rfl, by kernel_rfl⟩
theorem fok132 : Wk.FOk Try.prog 132 := ⟨Try.f132, Try.func132, by kernel_rfl, by kernel_rfl⟩
theorem fok133 : Wk.FOk Try.prog 133 := ⟨Try.f133, Try.func133, by kernel_rfl, by kernel_rfl⟩
theorem fok134 : Wk.FOk Try.prog 134 := ⟨Try.f134, Try.func134, by kernel_rfl, by kernel_rfl⟩
theorem fok135 : Wk.FOk Try.prog 135 := ⟨Try.f135, Try.func135, by kernel_rfl, by kernel_rfl⟩
theorem fok136 : Wk.FOk Try.prog 136 := ⟨Try.f136, Try.func136, by kernel_rfl, by kernel_rfl⟩
theorem fok137 : Wk.FOk Try.prog 137 := ⟨Try.f137, Try.func137, by kernel_rfl, by kernel_rfl⟩
theorem fok138 : Wk.FOk Try.prog 138 := ⟨Try.f138, Try.func138, by kernel_rfl, by kernel_rfl⟩
theorem fok139 : Wk.FOk Try.prog 139 := ⟨Try.f139, Try.func139, by kernel_rfl, by kernel_rfl⟩
theorem fok140 : Wk.FOk Try.prog 140 := ⟨Try.f140, Try.func140, by kernel_rfl, by kernel_rfl⟩
theorem fok141 : Wk.FOk Try.prog 141 := ⟨Try.f141, Try.func141, by kernel_rfl, by kernel_rfl⟩
theorem fok142 : Wk.FOk Try.prog 142 := ⟨Try.f142, Try.func142, by kernel_rfl, by kernel_rfl⟩
theorem fok143 : Wk.FOk Try.prog 143 := ⟨Try.f143, Try.func143, by kernel_rfl, by kernel_rfl⟩
theorem fok144 : Wk.FOk Try.prog 144 := ⟨Try.f144, Try.func144, by kernel_rfl, by kernel_rfl⟩
theorem fok145 : Wk.FOk Try.prog 145 := ⟨Try.f145, Try.func145, by kernel_rfl, by kernel_rfl⟩
theorem fok146 : Wk.FOk Try.prog 146 := ⟨Try.f146, Try.func146, by kernel_rfl, by kernel_rfl⟩
theorem fok147 : Wk.FOk Try.prog 147 := ⟨Try.f147, Try.func147, by kernel_rfl, by kernel_rfl⟩
theorem fok148 : Wk.FOk Try.prog 148 := ⟨Try.f148, Try.func148, by kernel_rfl, by kernel_rfl⟩
theorem fok149 : Wk.FOk Try.prog 149 := ⟨Try.f149, Try.func149, by kernel_rfl, by kernel_rfl⟩
theorem fok150 : Wk.FOk Try.prog 150 := ⟨Try.f150, Try.func150, by kernel_rfl, by kernel_rfl⟩
end Go.Proofs.Ytoladcdelaemoaa
