/-
  The table of the types of this seat's program, for the walking layer: made by a program (mkseat.py).
-/
import Derived.Test.YtgopgonkchlkfaaRows
import Derived.Test.YtgopgonkchlkfaaKtGs
import Derived.KernelRfl
namespace Go.Proofs.Ytgopgonkchlkfaa
open Go
def TTl : List (Option Wk.TI) := [
  none,
  some ⟨.func, 1, 8, [Go.Value.nilFunc]⟩,
  some ⟨.int Go.IntKind.i64, 1, 8, [(Go.Value.int Go.IntKind.i64 0)]⟩,
  some ⟨.int Go.IntKind.i64, 1, 8, [(Go.Value.int Go.IntKind.i64 0)]⟩,
  some ⟨.bool, 1, 1, [(Go.Value.bool false)]⟩,
  some ⟨.int Go.IntKind.u8, 1, 1, [(Go.Value.int Go.IntKind.u8 0)]⟩,
  some ⟨.int Go.IntKind.u8, 1, 1, [(Go.Value.int Go.IntKind.u8 0)]⟩,
  some ⟨.strct [(0, 1, 2), (1, 1, 3), (2, 1, 4), (3, 1, 6)], 4, 24, [(Go.Value.int Go.IntKind.i64 0), (Go.Value.int Go.IntKind.i64 0), (Go.Value.bool false), (Go.Value.int Go.IntKind.u8 0)]⟩,
  some ⟨.strct [(0, 1, 2), (1, 1, 3), (2, 1, 4), (3, 1, 6)], 4, 24, [(Go.Value.int Go.IntKind.i64 0), (Go.Value.int Go.IntKind.i64 0), (Go.Value.bool false), (Go.Value.int Go.IntKind.u8 0)]⟩,
  some ⟨.string, 1, 16, [(Go.Value.string { data := #[] })]⟩,
  some ⟨.string, 1, 16, [(Go.Value.string { data := #[] })]⟩,
  some ⟨.string, 1, 16, [(Go.Value.string { data := #[] })]⟩,
  some ⟨.int Go.IntKind.u64, 1, 8, [(Go.Value.int Go.IntKind.u64 0)]⟩,
  none,
  none,
  some ⟨.ptr 203, 1, 8, [(Go.Value.pointer none)]⟩,
  some ⟨.ptr 206, 1, 8, [(Go.Value.pointer none)]⟩,
  some ⟨.ptr 213, 1, 8, [(Go.Value.pointer none)]⟩,
  none,
  none,
  some ⟨.iface, 1, 16, [Go.Value.nilIface]⟩,
  some ⟨.int Go.IntKind.i32, 1, 4, [(Go.Value.int Go.IntKind.i32 0)]⟩,
  some ⟨.slice 9, 1, 24, [(Go.Value.slice none 0 0)]⟩,
  some ⟨.slice 71, 1, 24, [(Go.Value.slice none 0 0)]⟩,
  some ⟨.func, 1, 8, [Go.Value.nilFunc]⟩,
  some ⟨.func, 1, 8, [Go.Value.nilFunc]⟩,
  some ⟨.func, 1, 8, [Go.Value.nilFunc]⟩,
  some ⟨.ptr 104, 1, 8, [(Go.Value.pointer none)]⟩,
  some ⟨.func, 1, 8, [Go.Value.nilFunc]⟩,
  some ⟨.int Go.IntKind.i64, 1, 8, [(Go.Value.int Go.IntKind.i64 0)]⟩,
  none,
  some ⟨.func, 1, 8, [Go.Value.nilFunc]⟩,
  some ⟨.func, 1, 8, [Go.Value.nilFunc]⟩,
  none,
  some ⟨.func, 1, 8, [Go.Value.nilFunc]⟩,
  some ⟨.func, 1, 8, [Go.Value.nilFunc]⟩,
  none,
  some ⟨.func, 1, 8, [Go.Value.nilFunc]⟩,
  some ⟨.func, 1, 8, [Go.Value.nilFunc]⟩,
  none,
  some ⟨.func, 1, 8, [Go.Value.nilFunc]⟩,
  some ⟨.func, 1, 8, [Go.Value.nilFunc]⟩,
  some ⟨.ptr 90, 1, 8, [(Go.Value.pointer none)]⟩,
  none,
  some ⟨.func, 1, 8, [Go.Value.nilFunc]⟩,
  some ⟨.func, 1, 8, [Go.Value.nilFunc]⟩,
  some ⟨.func, 1, 8, [Go.Value.nilFunc]⟩,
  some ⟨.func, 1, 8, [Go.Value.nilFunc]⟩,
  some ⟨.func, 1, 8, [Go.Value.nilFunc]⟩,
  some ⟨.func, 1, 8, [Go.Value.nilFunc]⟩,
  some ⟨.func, 1, 8, [Go.Value.nilFunc]⟩,
  some ⟨.func, 1, 8, [Go.Value.nilFunc]⟩,
  some ⟨.func, 1, 8, [Go.Value.nilFunc]⟩,
  some ⟨.func, 1, 8, [Go.Value.nilFunc]⟩,
  some ⟨.func, 1, 8, [Go.Value.nilFunc]⟩,
  some ⟨.func, 1, 8, [Go.Value.nilFunc]⟩,
  some ⟨.func, 1, 8, [Go.Value.nilFunc]⟩,
  some ⟨.func, 1, 8, [Go.Value.nilFunc]⟩,
  some ⟨.func, 1, 8, [Go.Value.nilFunc]⟩,
  some ⟨.ptr 61, 1, 8, [(Go.Value.pointer none)]⟩,
  some ⟨.strct [(0, 1, 22)], 1, 24, [(Go.Value.slice none 0 0)]⟩,
  some ⟨.strct [(0, 1, 22)], 1, 24, [(Go.Value.slice none 0 0)]⟩,
  some ⟨.func, 1, 8, [Go.Value.nilFunc]⟩,
  some ⟨.func, 1, 8, [Go.Value.nilFunc]⟩,
  some ⟨.func, 1, 8, [Go.Value.nilFunc]⟩,
  some ⟨.slice 5, 1, 24, [(Go.Value.slice none 0 0)]⟩,
  some ⟨.func, 1, 8, [Go.Value.nilFunc]⟩,
  some ⟨.func, 1, 8, [Go.Value.nilFunc]⟩,
  some ⟨.func, 1, 8, [Go.Value.nilFunc]⟩,
  some ⟨.slice 3, 1, 24, [(Go.Value.slice none 0 0)]⟩,
  some ⟨.strct [(0, 1, 5), (1, 1, 3), (2, 1, 3), (3, 1, 3), (4, 1, 3), (5, 1, 9), (6, 1, 69)], 7, 80, [(Go.Value.int Go.IntKind.u8 0), (Go.Value.int Go.IntKind.i64 0), (Go.Value.int Go.IntKind.i64 0), (Go.Value.int Go.IntKind.i64 0), (Go.Value.int Go.IntKind.i64 0), (Go.Value.string { data := #[] }), (Go.Value.slice none 0 0)]⟩,
  some ⟨.strct [(0, 1, 5), (1, 1, 3), (2, 1, 3), (3, 1, 3), (4, 1, 3), (5, 1, 9), (6, 1, 69)], 7, 80, [(Go.Value.int Go.IntKind.u8 0), (Go.Value.int Go.IntKind.i64 0), (Go.Value.int Go.IntKind.i64 0), (Go.Value.int Go.IntKind.i64 0), (Go.Value.int Go.IntKind.i64 0), (Go.Value.string { data := #[] }), (Go.Value.slice none 0 0)]⟩,
  none,
  some ⟨.func, 1, 8, [Go.Value.nilFunc]⟩,
  some ⟨.ptr 77, 1, 8, [(Go.Value.pointer none)]⟩,
  some ⟨.map 9 127, 1, 8, [(Go.Value.map none)]⟩,
  some ⟨.strct [(0, 1, 23), (1, 1, 22), (2, 1, 75)], 3, 56, [(Go.Value.slice none 0 0), (Go.Value.slice none 0 0), (Go.Value.map none)]⟩,
  some ⟨.strct [(0, 1, 23), (1, 1, 22), (2, 1, 75)], 3, 56, [(Go.Value.slice none 0 0), (Go.Value.slice none 0 0), (Go.Value.map none)]⟩,
  some ⟨.func, 1, 8, [Go.Value.nilFunc]⟩,
  some ⟨.func, 1, 8, [Go.Value.nilFunc]⟩,
  some ⟨.func, 1, 8, [Go.Value.nilFunc]⟩,
  some ⟨.int Go.IntKind.u64, 1, 8, [(Go.Value.int Go.IntKind.u64 0)]⟩,
  some ⟨.func, 1, 8, [Go.Value.nilFunc]⟩,
  none,
  some ⟨.func, 1, 8, [Go.Value.nilFunc]⟩,
  some ⟨.strct [], 0, 0, []⟩,
  some ⟨.strct [], 0, 0, []⟩,
  some ⟨.iface, 1, 16, [Go.Value.nilIface]⟩,
  some ⟨.iface, 1, 16, [Go.Value.nilIface]⟩,
  some ⟨.strct [(0, 1, 88)], 1, 16, [Go.Value.nilIface]⟩,
  some ⟨.strct [(0, 1, 88)], 1, 16, [Go.Value.nilIface]⟩,
  some ⟨.strct [(0, 1, 9)], 1, 16, [(Go.Value.string { data := #[] })]⟩,
  some ⟨.strct [(0, 1, 9)], 1, 16, [(Go.Value.string { data := #[] })]⟩,
  some ⟨.func, 1, 8, [Go.Value.nilFunc]⟩,
  none,
  none,
  some ⟨.func, 1, 8, [Go.Value.nilFunc]⟩,
  some ⟨.func, 1, 8, [Go.Value.nilFunc]⟩,
  some ⟨.func, 1, 8, [Go.Value.nilFunc]⟩,
  none,
  some ⟨.func, 1, 8, [Go.Value.nilFunc]⟩,
  some ⟨.func, 1, 8, [Go.Value.nilFunc]⟩,
  some ⟨.map 9 110, 1, 8, [(Go.Value.map none)]⟩,
  some ⟨.strct [(0, 1, 102)], 1, 8, [(Go.Value.map none)]⟩,
  some ⟨.strct [(0, 1, 102)], 1, 8, [(Go.Value.map none)]⟩,
  some ⟨.func, 1, 8, [Go.Value.nilFunc]⟩,
  some ⟨.func, 1, 8, [Go.Value.nilFunc]⟩,
  some ⟨.func, 1, 8, [Go.Value.nilFunc]⟩,
  some ⟨.func, 1, 8, [Go.Value.nilFunc]⟩,
  some ⟨.strct [(0, 1, 22), (1, 1, 4)], 2, 32, [(Go.Value.slice none 0 0), (Go.Value.bool false)]⟩,
  some ⟨.strct [(0, 1, 22), (1, 1, 4)], 2, 32, [(Go.Value.slice none 0 0), (Go.Value.bool false)]⟩,
  some ⟨.func, 1, 8, [Go.Value.nilFunc]⟩,
  some ⟨.func, 1, 8, [Go.Value.nilFunc]⟩,
  some ⟨.func, 1, 8, [Go.Value.nilFunc]⟩,
  some ⟨.func, 1, 8, [Go.Value.nilFunc]⟩,
  some ⟨.int Go.IntKind.u64, 1, 8, [(Go.Value.int Go.IntKind.u64 0)]⟩,
  some ⟨.strct [(0, 1, 3), (1, 1, 29)], 2, 16, [(Go.Value.int Go.IntKind.i64 0), (Go.Value.int Go.IntKind.i64 0)]⟩,
  some ⟨.strct [(0, 1, 3), (1, 1, 29)], 2, 16, [(Go.Value.int Go.IntKind.i64 0), (Go.Value.int Go.IntKind.i64 0)]⟩,
  none,
  some ⟨.ptr 121, 1, 8, [(Go.Value.pointer none)]⟩,
  some ⟨.strct [(0, 1, 22), (1, 1, 22)], 2, 48, [(Go.Value.slice none 0 0), (Go.Value.slice none 0 0)]⟩,
  some ⟨.strct [(0, 1, 22), (1, 1, 22)], 2, 48, [(Go.Value.slice none 0 0), (Go.Value.slice none 0 0)]⟩,
  some ⟨.func, 1, 8, [Go.Value.nilFunc]⟩,
  none,
  none,
  some ⟨.func, 1, 8, [Go.Value.nilFunc]⟩,
  some ⟨.strct [(0, 1, 3)], 1, 8, [(Go.Value.int Go.IntKind.i64 0)]⟩,
  some ⟨.strct [(0, 1, 3)], 1, 8, [(Go.Value.int Go.IntKind.i64 0)]⟩,
  none,
  some ⟨.func, 1, 8, [Go.Value.nilFunc]⟩,
  some ⟨.func, 1, 8, [Go.Value.nilFunc]⟩,
  some ⟨.func, 1, 8, [Go.Value.nilFunc]⟩,
  some ⟨.func, 1, 8, [Go.Value.nilFunc]⟩,
  some ⟨.func, 1, 8, [Go.Value.nilFunc]⟩,
  some ⟨.func, 1, 8, [Go.Value.nilFunc]⟩,
  some ⟨.func, 1, 8, [Go.Value.nilFunc]⟩,
  some ⟨.func, 1, 8, [Go.Value.nilFunc]⟩,
  some ⟨.func, 1, 8, [Go.Value.nilFunc]⟩,
  some ⟨.func, 1, 8, [Go.Value.nilFunc]⟩,
  some ⟨.func, 1, 8, [Go.Value.nilFunc]⟩,
  some ⟨.strct [(0, 1, 3), (1, 1, 3), (2, 1, 3)], 3, 24, [(Go.Value.int Go.IntKind.i64 0), (Go.Value.int Go.IntKind.i64 0), (Go.Value.int Go.IntKind.i64 0)]⟩,
  some ⟨.strct [(0, 1, 3), (1, 1, 3), (2, 1, 3)], 3, 24, [(Go.Value.int Go.IntKind.i64 0), (Go.Value.int Go.IntKind.i64 0), (Go.Value.int Go.IntKind.i64 0)]⟩,
  some ⟨.ptr 144, 1, 8, [(Go.Value.pointer none)]⟩,
  some ⟨.strct [(0, 1, 142), (1, 1, 65)], 2, 32, [(Go.Value.pointer none), (Go.Value.slice none 0 0)]⟩,
  some ⟨.strct [(0, 1, 142), (1, 1, 65)], 2, 32, [(Go.Value.pointer none), (Go.Value.slice none 0 0)]⟩,
  some ⟨.iface, 1, 16, [Go.Value.nilIface]⟩,
  some ⟨.iface, 1, 16, [Go.Value.nilIface]⟩,
  none,
  some ⟨.func, 1, 8, [Go.Value.nilFunc]⟩,
  some ⟨.func, 1, 8, [Go.Value.nilFunc]⟩,
  some ⟨.arr 9 5, 9, 9, [(Go.Value.int Go.IntKind.u8 0), (Go.Value.int Go.IntKind.u8 0), (Go.Value.int Go.IntKind.u8 0), (Go.Value.int Go.IntKind.u8 0), (Go.Value.int Go.IntKind.u8 0), (Go.Value.int Go.IntKind.u8 0), (Go.Value.int Go.IntKind.u8 0), (Go.Value.int Go.IntKind.u8 0), (Go.Value.int Go.IntKind.u8 0)]⟩,
  some ⟨.func, 1, 8, [Go.Value.nilFunc]⟩,
  some ⟨.strct [(0, 1, 3), (1, 1, 4), (2, 1, 4), (3, 1, 4), (4, 1, 151)], 5, 24, [(Go.Value.int Go.IntKind.i64 0), (Go.Value.bool false), (Go.Value.bool false), (Go.Value.bool false), Go.Value.nilFunc]⟩,
  some ⟨.strct [(0, 1, 3), (1, 1, 4), (2, 1, 4), (3, 1, 4), (4, 1, 151)], 5, 24, [(Go.Value.int Go.IntKind.i64 0), (Go.Value.bool false), (Go.Value.bool false), (Go.Value.bool false), Go.Value.nilFunc]⟩,
  none,
  some ⟨.map 5 153, 1, 8, [(Go.Value.map none)]⟩,
  some ⟨.func, 1, 8, [Go.Value.nilFunc]⟩,
  some ⟨.func, 1, 8, [Go.Value.nilFunc]⟩,
  none,
  some ⟨.func, 1, 8, [Go.Value.nilFunc]⟩,
  some ⟨.strct [(0, 1, 29)], 1, 8, [(Go.Value.int Go.IntKind.i64 0)]⟩,
  some ⟨.strct [(0, 1, 29)], 1, 8, [(Go.Value.int Go.IntKind.i64 0)]⟩,
  none,
  none,
  some ⟨.func, 1, 8, [Go.Value.nilFunc]⟩,
  some ⟨.func, 1, 8, [Go.Value.nilFunc]⟩,
  some ⟨.func, 1, 8, [Go.Value.nilFunc]⟩,
  some ⟨.func, 1, 8, [Go.Value.nilFunc]⟩,
  some ⟨.func, 1, 8, [Go.Value.nilFunc]⟩,
  some ⟨.func, 1, 8, [Go.Value.nilFunc]⟩,
  some ⟨.func, 1, 8, [Go.Value.nilFunc]⟩,
  some ⟨.slice 141, 1, 24, [(Go.Value.slice none 0 0)]⟩,
  some ⟨.ptr 5, 1, 8, [(Go.Value.pointer none)]⟩,
  some ⟨.func, 1, 8, [Go.Value.nilFunc]⟩,
  some ⟨.int Go.IntKind.i64, 1, 8, [(Go.Value.int Go.IntKind.i64 0)]⟩,
  none,
  some ⟨.func, 1, 8, [Go.Value.nilFunc]⟩,
  some ⟨.func, 1, 8, [Go.Value.nilFunc]⟩,
  some ⟨.func, 1, 8, [Go.Value.nilFunc]⟩,
  none,
  some ⟨.func, 1, 8, [Go.Value.nilFunc]⟩,
  some ⟨.func, 1, 8, [Go.Value.nilFunc]⟩,
  some ⟨.int Go.IntKind.u32, 1, 4, [(Go.Value.int Go.IntKind.u32 0)]⟩,
  some ⟨.func, 1, 8, [Go.Value.nilFunc]⟩,
  some ⟨.func, 1, 8, [Go.Value.nilFunc]⟩,
  none,
  some ⟨.func, 1, 8, [Go.Value.nilFunc]⟩,
  some ⟨.func, 1, 8, [Go.Value.nilFunc]⟩,
  some ⟨.func, 1, 8, [Go.Value.nilFunc]⟩,
  some ⟨.func, 1, 8, [Go.Value.nilFunc]⟩,
  none,
  some ⟨.func, 1, 8, [Go.Value.nilFunc]⟩,
  some ⟨.func, 1, 8, [Go.Value.nilFunc]⟩,
  some ⟨.func, 1, 8, [Go.Value.nilFunc]⟩,
  some ⟨.int Go.IntKind.u64, 1, 8, [(Go.Value.int Go.IntKind.u64 0)]⟩,
  some ⟨.func, 1, 8, [Go.Value.nilFunc]⟩,
  some ⟨.func, 1, 8, [Go.Value.nilFunc]⟩,
  some ⟨.func, 1, 8, [Go.Value.nilFunc]⟩,
  some ⟨.ptr 3, 1, 8, [(Go.Value.pointer none)]⟩,
  some ⟨.func, 1, 8, [Go.Value.nilFunc]⟩,
  some ⟨.ptr 194, 1, 8, [(Go.Value.pointer none)]⟩,
  some ⟨.func, 1, 8, [Go.Value.nilFunc]⟩,
  none,
  none,
  some ⟨.arr 0 16, 0, 0, []⟩,
  none,
  none,
  some ⟨.int Go.IntKind.u8, 1, 1, [(Go.Value.int Go.IntKind.u8 0)]⟩,
  some ⟨.int Go.IntKind.u8, 1, 1, [(Go.Value.int Go.IntKind.u8 0)]⟩,
  some ⟨.func, 1, 8, [Go.Value.nilFunc]⟩,
  some ⟨.int Go.IntKind.i32, 1, 4, [(Go.Value.int Go.IntKind.i32 0)]⟩,
  some ⟨.int Go.IntKind.i32, 1, 4, [(Go.Value.int Go.IntKind.i32 0)]⟩,
  none,
  none,
  some ⟨.func, 1, 8, [Go.Value.nilFunc]⟩,
  some ⟨.ptr 225, 1, 8, [(Go.Value.pointer none)]⟩,
  some ⟨.func, 1, 8, [Go.Value.nilFunc]⟩,
  some ⟨.ptr 232, 1, 8, [(Go.Value.pointer none)]⟩,
  some ⟨.func, 1, 8, [Go.Value.nilFunc]⟩,
  some ⟨.strct [(0, 1, 217), (1, 1, 217)], 2, 16, [(Go.Value.pointer none), (Go.Value.pointer none)]⟩,
  some ⟨.strct [(0, 1, 217), (1, 1, 217)], 2, 16, [(Go.Value.pointer none), (Go.Value.pointer none)]⟩,
  some ⟨.func, 1, 8, [Go.Value.nilFunc]⟩,
  some ⟨.arr 8 182, 8, 32, [(Go.Value.int Go.IntKind.u32 0), (Go.Value.int Go.IntKind.u32 0), (Go.Value.int Go.IntKind.u32 0), (Go.Value.int Go.IntKind.u32 0), (Go.Value.int Go.IntKind.u32 0), (Go.Value.int Go.IntKind.u32 0), (Go.Value.int Go.IntKind.u32 0), (Go.Value.int Go.IntKind.u32 0)]⟩,
  some ⟨.arr 64 5, 64, 64, [(Go.Value.int Go.IntKind.u8 0), (Go.Value.int Go.IntKind.u8 0), (Go.Value.int Go.IntKind.u8 0), (Go.Value.int Go.IntKind.u8 0), (Go.Value.int Go.IntKind.u8 0), (Go.Value.int Go.IntKind.u8 0), (Go.Value.int Go.IntKind.u8 0), (Go.Value.int Go.IntKind.u8 0), (Go.Value.int Go.IntKind.u8 0), (Go.Value.int Go.IntKind.u8 0), (Go.Value.int Go.IntKind.u8 0), (Go.Value.int Go.IntKind.u8 0), (Go.Value.int Go.IntKind.u8 0), (Go.Value.int Go.IntKind.u8 0), (Go.Value.int Go.IntKind.u8 0), (Go.Value.int Go.IntKind.u8 0), (Go.Value.int Go.IntKind.u8 0), (Go.Value.int Go.IntKind.u8 0), (Go.Value.int Go.IntKind.u8 0), (Go.Value.int Go.IntKind.u8 0), (Go.Value.int Go.IntKind.u8 0), (Go.Value.int Go.IntKind.u8 0), (Go.Value.int Go.IntKind.u8 0), (Go.Value.int Go.IntKind.u8 0), (Go.Value.int Go.IntKind.u8 0), (Go.Value.int Go.IntKind.u8 0), (Go.Value.int Go.IntKind.u8 0), (Go.Value.int Go.IntKind.u8 0), (Go.Value.int Go.IntKind.u8 0), (Go.Value.int Go.IntKind.u8 0), (Go.Value.int Go.IntKind.u8 0), (Go.Value.int Go.IntKind.u8 0), (Go.Value.int Go.IntKind.u8 0), (Go.Value.int Go.IntKind.u8 0), (Go.Value.int Go.IntKind.u8 0), (Go.Value.int Go.IntKind.u8 0), (Go.Value.int Go.IntKind.u8 0), (Go.Value.int Go.IntKind.u8 0), (Go.Value.int Go.IntKind.u8 0), (Go.Value.int Go.IntKind.u8 0), (Go.Value.int Go.IntKind.u8 0), (Go.Value.int Go.IntKind.u8 0), (Go.Value.int Go.IntKind.u8 0), (Go.Value.int Go.IntKind.u8 0), (Go.Value.int Go.IntKind.u8 0), (Go.Value.int Go.IntKind.u8 0), (Go.Value.int Go.IntKind.u8 0), (Go.Value.int Go.IntKind.u8 0), (Go.Value.int Go.IntKind.u8 0), (Go.Value.int Go.IntKind.u8 0), (Go.Value.int Go.IntKind.u8 0), (Go.Value.int Go.IntKind.u8 0), (Go.Value.int Go.IntKind.u8 0), (Go.Value.int Go.IntKind.u8 0), (Go.Value.int Go.IntKind.u8 0), (Go.Value.int Go.IntKind.u8 0), (Go.Value.int Go.IntKind.u8 0), (Go.Value.int Go.IntKind.u8 0), (Go.Value.int Go.IntKind.u8 0), (Go.Value.int Go.IntKind.u8 0), (Go.Value.int Go.IntKind.u8 0), (Go.Value.int Go.IntKind.u8 0), (Go.Value.int Go.IntKind.u8 0), (Go.Value.int Go.IntKind.u8 0)]⟩,
  none,
  none,
  some ⟨.func, 1, 8, [Go.Value.nilFunc]⟩,
  some ⟨.func, 1, 8, [Go.Value.nilFunc]⟩,
  some ⟨.strct [(0, 1, 215)], 1, 8, [(Go.Value.pointer none)]⟩,
  some ⟨.strct [(0, 1, 215)], 1, 8, [(Go.Value.pointer none)]⟩,
  some ⟨.func, 1, 8, [Go.Value.nilFunc]⟩,
  some ⟨.strct [(0, 1, 229), (1, 1, 229)], 2, 16, [(Go.Value.pointer none), (Go.Value.pointer none)]⟩,
  some ⟨.strct [(0, 1, 229), (1, 1, 229)], 2, 16, [(Go.Value.pointer none), (Go.Value.pointer none)]⟩,
  some ⟨.func, 1, 8, [Go.Value.nilFunc]⟩,
  some ⟨.func, 1, 8, [Go.Value.nilFunc]⟩,
  some ⟨.arr 16 182, 16, 64, [(Go.Value.int Go.IntKind.u32 0), (Go.Value.int Go.IntKind.u32 0), (Go.Value.int Go.IntKind.u32 0), (Go.Value.int Go.IntKind.u32 0), (Go.Value.int Go.IntKind.u32 0), (Go.Value.int Go.IntKind.u32 0), (Go.Value.int Go.IntKind.u32 0), (Go.Value.int Go.IntKind.u32 0), (Go.Value.int Go.IntKind.u32 0), (Go.Value.int Go.IntKind.u32 0), (Go.Value.int Go.IntKind.u32 0), (Go.Value.int Go.IntKind.u32 0), (Go.Value.int Go.IntKind.u32 0), (Go.Value.int Go.IntKind.u32 0), (Go.Value.int Go.IntKind.u32 0), (Go.Value.int Go.IntKind.u32 0)]⟩,
  some ⟨.arr 64 182, 64, 256, [(Go.Value.int Go.IntKind.u32 0), (Go.Value.int Go.IntKind.u32 0), (Go.Value.int Go.IntKind.u32 0), (Go.Value.int Go.IntKind.u32 0), (Go.Value.int Go.IntKind.u32 0), (Go.Value.int Go.IntKind.u32 0), (Go.Value.int Go.IntKind.u32 0), (Go.Value.int Go.IntKind.u32 0), (Go.Value.int Go.IntKind.u32 0), (Go.Value.int Go.IntKind.u32 0), (Go.Value.int Go.IntKind.u32 0), (Go.Value.int Go.IntKind.u32 0), (Go.Value.int Go.IntKind.u32 0), (Go.Value.int Go.IntKind.u32 0), (Go.Value.int Go.IntKind.u32 0), (Go.Value.int Go.IntKind.u32 0), (Go.Value.int Go.IntKind.u32 0), (Go.Value.int Go.IntKind.u32 0), (Go.Value.int Go.IntKind.u32 0), (Go.Value.int Go.IntKind.u32 0), (Go.Value.int Go.IntKind.u32 0), (Go.Value.int Go.IntKind.u32 0), (Go.Value.int Go.IntKind.u32 0), (Go.Value.int Go.IntKind.u32 0), (Go.Value.int Go.IntKind.u32 0), (Go.Value.int Go.IntKind.u32 0), (Go.Value.int Go.IntKind.u32 0), (Go.Value.int Go.IntKind.u32 0), (Go.Value.int Go.IntKind.u32 0), (Go.Value.int Go.IntKind.u32 0), (Go.Value.int Go.IntKind.u32 0), (Go.Value.int Go.IntKind.u32 0), (Go.Value.int Go.IntKind.u32 0), (Go.Value.int Go.IntKind.u32 0), (Go.Value.int Go.IntKind.u32 0), (Go.Value.int Go.IntKind.u32 0), (Go.Value.int Go.IntKind.u32 0), (Go.Value.int Go.IntKind.u32 0), (Go.Value.int Go.IntKind.u32 0), (Go.Value.int Go.IntKind.u32 0), (Go.Value.int Go.IntKind.u32 0), (Go.Value.int Go.IntKind.u32 0), (Go.Value.int Go.IntKind.u32 0), (Go.Value.int Go.IntKind.u32 0), (Go.Value.int Go.IntKind.u32 0), (Go.Value.int Go.IntKind.u32 0), (Go.Value.int Go.IntKind.u32 0), (Go.Value.int Go.IntKind.u32 0), (Go.Value.int Go.IntKind.u32 0), (Go.Value.int Go.IntKind.u32 0), (Go.Value.int Go.IntKind.u32 0), (Go.Value.int Go.IntKind.u32 0), (Go.Value.int Go.IntKind.u32 0), (Go.Value.int Go.IntKind.u32 0), (Go.Value.int Go.IntKind.u32 0), (Go.Value.int Go.IntKind.u32 0), (Go.Value.int Go.IntKind.u32 0), (Go.Value.int Go.IntKind.u32 0), (Go.Value.int Go.IntKind.u32 0), (Go.Value.int Go.IntKind.u32 0), (Go.Value.int Go.IntKind.u32 0), (Go.Value.int Go.IntKind.u32 0), (Go.Value.int Go.IntKind.u32 0), (Go.Value.int Go.IntKind.u32 0)]⟩,
  some ⟨.func, 1, 8, [Go.Value.nilFunc]⟩,
  some ⟨.func, 1, 8, [Go.Value.nilFunc]⟩,
  some ⟨.arr 4 5, 4, 4, [(Go.Value.int Go.IntKind.u8 0), (Go.Value.int Go.IntKind.u8 0), (Go.Value.int Go.IntKind.u8 0), (Go.Value.int Go.IntKind.u8 0)]⟩]
def TT : Wk.Tab := Wk.nth TTl
theorem TT_eq (t : Nat) : TT t = Wk.nth TTl t := rfl
theorem tok1 : Wk.TOk Try.prog 1 ⟨.func, 1, 8, [Go.Value.nilFunc]⟩ := ⟨⟨Try.t1, _, by kernel_rfl, rfl, rfl, rfl, by kernel_rfl⟩, ⟨_, _, _, Try.underlying1⟩, by kernel_rfl⟩
theorem tok2 : Wk.TOk Try.prog 2 ⟨.int Go.IntKind.i64, 1, 8, [(Go.Value.int Go.IntKind.i64 0)]⟩ := ⟨⟨Try.t2, _, by kernel_rfl, rfl, rfl, rfl, by kernel_rfl⟩, Try.underlying2, by kernel_rfl⟩
theorem tok3 : Wk.TOk Try.prog 3 ⟨.int Go.IntKind.i64, 1, 8, [(Go.Value.int Go.IntKind.i64 0)]⟩ := ⟨⟨Try.t3, _, by kernel_rfl, rfl, rfl, rfl, by kernel_rfl⟩, Try.underlying3, by kernel_rfl⟩
theorem tok4 : Wk.TOk Try.prog 4 ⟨.bool, 1, 1, [(Go.Value.bool false)]⟩ := ⟨⟨Try.t4, _, by kernel_rfl, rfl, rfl, rfl, by kernel_rfl⟩, Try.underlying4, by kernel_rfl⟩
theorem tok5 : Wk.TOk Try.prog 5 ⟨.int Go.IntKind.u8, 1, 1, [(Go.Value.int Go.IntKind.u8 0)]⟩ := ⟨⟨Try.t5, _, by kernel_rfl, rfl, rfl, rfl, by kernel_rfl⟩, Try.underlying5, by kernel_rfl⟩
theorem tok6 : Wk.TOk Try.prog 6 ⟨.int Go.IntKind.u8, 1, 1, [(Go.Value.int Go.IntKind.u8 0)]⟩ := ⟨⟨Try.t6, _, by kernel_rfl, rfl, rfl, rfl, by kernel_rfl⟩, Try.underlying6, by kernel_rfl⟩
theorem tok7 : Wk.TOk Try.prog 7 ⟨.strct [(0, 1, 2), (1, 1, 3), (2, 1, 4), (3, 1, 6)], 4, 24, [(Go.Value.int Go.IntKind.i64 0), (Go.Value.int Go.IntKind.i64 0), (Go.Value.bool false), (Go.Value.int Go.IntKind.u8 0)]⟩ := ⟨⟨Try.t7, _, by kernel_rfl, rfl, rfl, rfl, by kernel_rfl⟩, ⟨_, Try.underlying7, by kernel_rfl, Try.stoodInHeld7, by kernel_rfl⟩, by kernel_rfl⟩
theorem tok8 : Wk.TOk Try.prog 8 ⟨.strct [(0, 1, 2), (1, 1, 3), (2, 1, 4), (3, 1, 6)], 4, 24, [(Go.Value.int Go.IntKind.i64 0), (Go.Value.int Go.IntKind.i64 0), (Go.Value.bool false), (Go.Value.int Go.IntKind.u8 0)]⟩ := ⟨⟨Try.t8, _, by kernel_rfl, rfl, rfl, rfl, by kernel_rfl⟩, ⟨_, Try.underlying8, by kernel_rfl, Try.stoodInHeld8, by kernel_rfl⟩, by kernel_rfl⟩
theorem tok9 : Wk.TOk Try.prog 9 ⟨.string, 1, 16, [(Go.Value.string { data := #[] })]⟩ := ⟨⟨Try.t9, _, by kernel_rfl, rfl, rfl, rfl, by kernel_rfl⟩, Try.underlying9, by kernel_rfl⟩
theorem tok10 : Wk.TOk Try.prog 10 ⟨.string, 1, 16, [(Go.Value.string { data := #[] })]⟩ := ⟨⟨Try.t10, _, by kernel_rfl, rfl, rfl, rfl, by kernel_rfl⟩, Try.underlying10, by kernel_rfl⟩
theorem tok11 : Wk.TOk Try.prog 11 ⟨.string, 1, 16, [(Go.Value.string { data := #[] })]⟩ := ⟨⟨Try.t11, _, by kernel_rfl, rfl, rfl, rfl, by kernel_rfl⟩, Try.underlying11, by kernel_rfl⟩
theorem tok12 : Wk.TOk Try.prog 12 ⟨.int Go.IntKind.u64, 1, 8, [(Go.Value.int Go.IntKind.u64 0)]⟩ := ⟨⟨Try.t12, _, by kernel_rfl, rfl, rfl, rfl, by kernel_rfl⟩, Try.underlying12, by kernel_rfl⟩
theorem tok15 : Wk.TOk Try.prog 15 ⟨.ptr 203, 1, 8, [(Go.Value.pointer none)]⟩ := ⟨⟨Try.t15, _, by kernel_rfl, rfl, rfl, rfl, by kernel_rfl⟩, Try.underlying15, by kernel_rfl⟩
theorem tok16 : Wk.TOk Try.prog 16 ⟨.ptr 206, 1, 8, [(Go.Value.pointer none)]⟩ := ⟨⟨Try.t16, _, by kernel_rfl, rfl, rfl, rfl, by kernel_rfl⟩, Try.underlying16, by kernel_rfl⟩
theorem tok17 : Wk.TOk Try.prog 17 ⟨.ptr 213, 1, 8, [(Go.Value.pointer none)]⟩ := ⟨⟨Try.t17, _, by kernel_rfl, rfl, rfl, rfl, by kernel_rfl⟩, Try.underlying17, by kernel_rfl⟩
theorem tok20 : Wk.TOk Try.prog 20 ⟨.iface, 1, 16, [Go.Value.nilIface]⟩ := ⟨⟨Try.t20, _, by kernel_rfl, rfl, rfl, rfl, by kernel_rfl⟩, ⟨_, Try.underlying20⟩, by kernel_rfl⟩
theorem tok21 : Wk.TOk Try.prog 21 ⟨.int Go.IntKind.i32, 1, 4, [(Go.Value.int Go.IntKind.i32 0)]⟩ := ⟨⟨Try.t21, _, by kernel_rfl, rfl, rfl, rfl, by kernel_rfl⟩, Try.underlying21, by kernel_rfl⟩
theorem tok22 : Wk.TOk Try.prog 22 ⟨.slice 9, 1, 24, [(Go.Value.slice none 0 0)]⟩ := ⟨⟨Try.t22, _, by kernel_rfl, rfl, rfl, rfl, by kernel_rfl⟩, Try.underlying22, by kernel_rfl⟩
theorem tok23 : Wk.TOk Try.prog 23 ⟨.slice 71, 1, 24, [(Go.Value.slice none 0 0)]⟩ := ⟨⟨Try.t23, _, by kernel_rfl, rfl, rfl, rfl, by kernel_rfl⟩, Try.underlying23, by kernel_rfl⟩
theorem tok24 : Wk.TOk Try.prog 24 ⟨.func, 1, 8, [Go.Value.nilFunc]⟩ := ⟨⟨Try.t24, _, by kernel_rfl, rfl, rfl, rfl, by kernel_rfl⟩, ⟨_, _, _, Try.underlying24⟩, by kernel_rfl⟩
theorem tok25 : Wk.TOk Try.prog 25 ⟨.func, 1, 8, [Go.Value.nilFunc]⟩ := ⟨⟨Try.t25, _, by kernel_rfl, rfl, rfl, rfl, by kernel_rfl⟩, ⟨_, _, _, Try.underlying25⟩, by kernel_rfl⟩
theorem tok26 : Wk.TOk Try.prog 26 ⟨.func, 1, 8, [Go.Value.nilFunc]⟩ := ⟨⟨Try.t26, _, by kernel_rfl, rfl, rfl, rfl, by kernel_rfl⟩, ⟨_, _, _, Try.underlying26⟩, by kernel_rfl⟩
theorem tok27 : Wk.TOk Try.prog 27 ⟨.ptr 104, 1, 8, [(Go.Value.pointer none)]⟩ := ⟨⟨Try.t27, _, by kernel_rfl, rfl, rfl, rfl, by kernel_rfl⟩, Try.underlying27, by kernel_rfl⟩
theorem tok28 : Wk.TOk Try.prog 28 ⟨.func, 1, 8, [Go.Value.nilFunc]⟩ := ⟨⟨Try.t28, _, by kernel_rfl, rfl, rfl, rfl, by kernel_rfl⟩, ⟨_, _, _, Try.underlying28⟩, by kernel_rfl⟩
theorem tok29 : Wk.TOk Try.prog 29 ⟨.int Go.IntKind.i64, 1, 8, [(Go.Value.int Go.IntKind.i64 0)]⟩ := ⟨⟨Try.t29, _, by kernel_rfl, rfl, rfl, rfl, by kernel_rfl⟩, Try.underlying29, by kernel_rfl⟩
theorem tok31 : Wk.TOk Try.prog 31 ⟨.func, 1, 8, [Go.Value.nilFunc]⟩ := ⟨⟨Try.t31, _, by kernel_rfl, rfl, rfl, rfl, by kernel_rfl⟩, ⟨_, _, _, Try.underlying31⟩, by kernel_rfl⟩
theorem tok32 : Wk.TOk Try.prog 32 ⟨.func, 1, 8, [Go.Value.nilFunc]⟩ := ⟨⟨Try.t32, _, by kernel_rfl, rfl, rfl, rfl, by kernel_rfl⟩, ⟨_, _, _, Try.underlying32⟩, by kernel_rfl⟩
theorem tok34 : Wk.TOk Try.prog 34 ⟨.func, 1, 8, [Go.Value.nilFunc]⟩ := ⟨⟨Try.t34, _, by kernel_rfl, rfl, rfl, rfl, by kernel_rfl⟩, ⟨_, _, _, Try.underlying34⟩, by kernel_rfl⟩
theorem tok35 : Wk.TOk Try.prog 35 ⟨.func, 1, 8, [Go.Value.nilFunc]⟩ := ⟨⟨Try.t35, _, by kernel_rfl, rfl, rfl, rfl, by kernel_rfl⟩, ⟨_, _, _, Try.underlying35⟩, by kernel_rfl⟩
theorem tok37 : Wk.TOk Try.prog 37 ⟨.func, 1, 8, [Go.Value.nilFunc]⟩ := ⟨⟨Try.t37, _, by kernel_rfl, rfl, rfl, rfl, by kernel_rfl⟩, ⟨_, _, _, Try.underlying37⟩, by kernel_rfl⟩
theorem tok38 : Wk.TOk Try.prog 38 ⟨.func, 1, 8, [Go.Value.nilFunc]⟩ := ⟨⟨Try.t38, _, by kernel_rfl, rfl, rfl, rfl, by kernel_rfl⟩, ⟨_, _, _, Try.underlying38⟩, by kernel_rfl⟩
theorem tok40 : Wk.TOk Try.prog 40 ⟨.func, 1, 8, [Go.Value.nilFunc]⟩ := ⟨⟨Try.t40, _, by kernel_rfl, rfl, rfl, rfl, by kernel_rfl⟩, ⟨_, _, _, Try.underlying40⟩, by kernel_rfl⟩
theorem tok41 : Wk.TOk Try.prog 41 ⟨.func, 1, 8, [Go.Value.nilFunc]⟩ := ⟨⟨Try.t41, _, by kernel_rfl, rfl, rfl, rfl, by kernel_rfl⟩, ⟨_, _, _, Try.underlying41⟩, by kernel_rfl⟩
theorem tok42 : Wk.TOk Try.prog 42 ⟨.ptr 90, 1, 8, [(Go.Value.pointer none)]⟩ := ⟨⟨Try.t42, _, by kernel_rfl, rfl, rfl, rfl, by kernel_rfl⟩, Try.underlying42, by kernel_rfl⟩
theorem tok44 : Wk.TOk Try.prog 44 ⟨.func, 1, 8, [Go.Value.nilFunc]⟩ := ⟨⟨Try.t44, _, by kernel_rfl, rfl, rfl, rfl, by kernel_rfl⟩, ⟨_, _, _, Try.underlying44⟩, by kernel_rfl⟩
theorem tok45 : Wk.TOk Try.prog 45 ⟨.func, 1, 8, [Go.Value.nilFunc]⟩ := ⟨⟨Try.t45, _, by kernel_rfl, rfl, rfl, rfl, by kernel_rfl⟩, ⟨_, _, _, Try.underlying45⟩, by kernel_rfl⟩
theorem tok46 : Wk.TOk Try.prog 46 ⟨.func, 1, 8, [Go.Value.nilFunc]⟩ := ⟨⟨Try.t46, _, by kernel_rfl, rfl, rfl, rfl, by kernel_rfl⟩, ⟨_, _, _, Try.underlying46⟩, by kernel_rfl⟩
theorem tok47 : Wk.TOk Try.prog 47 ⟨.func, 1, 8, [Go.Value.nilFunc]⟩ := ⟨⟨Try.t47, _, by kernel_rfl, rfl, rfl, rfl, by kernel_rfl⟩, ⟨_, _, _, Try.underlying47⟩, by kernel_rfl⟩
theorem tok48 : Wk.TOk Try.prog 48 ⟨.func, 1, 8, [Go.Value.nilFunc]⟩ := ⟨⟨Try.t48, _, by kernel_rfl, rfl, rfl, rfl, by kernel_rfl⟩, ⟨_, _, _, Try.underlying48⟩, by kernel_rfl⟩
theorem tok49 : Wk.TOk Try.prog 49 ⟨.func, 1, 8, [Go.Value.nilFunc]⟩ := ⟨⟨Try.t49, _, by kernel_rfl, rfl, rfl, rfl, by kernel_rfl⟩, ⟨_, _, _, Try.underlying49⟩, by kernel_rfl⟩
theorem tok50 : Wk.TOk Try.prog 50 ⟨.func, 1, 8, [Go.Value.nilFunc]⟩ := ⟨⟨Try.t50, _, by kernel_rfl, rfl, rfl, rfl, by kernel_rfl⟩, ⟨_, _, _, Try.underlying50⟩, by kernel_rfl⟩
theorem tok51 : Wk.TOk Try.prog 51 ⟨.func, 1, 8, [Go.Value.nilFunc]⟩ := ⟨⟨Try.t51, _, by kernel_rfl, rfl, rfl, rfl, by kernel_rfl⟩, ⟨_, _, _, Try.underlying51⟩, by kernel_rfl⟩
theorem tok52 : Wk.TOk Try.prog 52 ⟨.func, 1, 8, [Go.Value.nilFunc]⟩ := ⟨⟨Try.t52, _, by kernel_rfl, rfl, rfl, rfl, by kernel_rfl⟩, ⟨_, _, _, Try.underlying52⟩, by kernel_rfl⟩
theorem tok53 : Wk.TOk Try.prog 53 ⟨.func, 1, 8, [Go.Value.nilFunc]⟩ := ⟨⟨Try.t53, _, by kernel_rfl, rfl, rfl, rfl, by kernel_rfl⟩, ⟨_, _, _, Try.underlying53⟩, by kernel_rfl⟩
theorem tok54 : Wk.TOk Try.prog 54 ⟨.func, 1, 8, [Go.Value.nilFunc]⟩ := ⟨⟨Try.t54, _, by kernel_rfl, rfl, rfl, rfl, by kernel_rfl⟩, ⟨_, _, _, Try.underlying54⟩, by kernel_rfl⟩
theorem tok55 : Wk.TOk Try.prog 55 ⟨.func, 1, 8, [Go.Value.nilFunc]⟩ := ⟨⟨Try.t55, _, by kernel_rfl, rfl, rfl, rfl, by kernel_rfl⟩, ⟨_, _, _, Try.underlying55⟩, by kernel_rfl⟩
theorem tok56 : Wk.TOk Try.prog 56 ⟨.func, 1, 8, [Go.Value.nilFunc]⟩ := ⟨⟨Try.t56, _, by kernel_rfl, rfl, rfl, rfl, by kernel_rfl⟩, ⟨_, _, _, Try.underlying56⟩, by kernel_rfl⟩
theorem tok57 : Wk.TOk Try.prog 57 ⟨.func, 1, 8, [Go.Value.nilFunc]⟩ := ⟨⟨Try.t57, _, by kernel_rfl, rfl, rfl, rfl, by kernel_rfl⟩, ⟨_, _, _, Try.underlying57⟩, by kernel_rfl⟩
theorem tok58 : Wk.TOk Try.prog 58 ⟨.func, 1, 8, [Go.Value.nilFunc]⟩ := ⟨⟨Try.t58, _, by kernel_rfl, rfl, rfl, rfl, by kernel_rfl⟩, ⟨_, _, _, Try.underlying58⟩, by kernel_rfl⟩
theorem tok59 : Wk.TOk Try.prog 59 ⟨.ptr 61, 1, 8, [(Go.Value.pointer none)]⟩ := ⟨⟨Try.t59, _, by kernel_rfl, rfl, rfl, rfl, by kernel_rfl⟩, Try.underlying59, by kernel_rfl⟩
theorem tok60 : Wk.TOk Try.prog 60 ⟨.strct [(0, 1, 22)], 1, 24, [(Go.Value.slice none 0 0)]⟩ := ⟨⟨Try.t60, _, by kernel_rfl, rfl, rfl, rfl, by kernel_rfl⟩, ⟨_, Try.underlying60, by kernel_rfl, Try.stoodInHeld60, by kernel_rfl⟩, by kernel_rfl⟩
theorem tok61 : Wk.TOk Try.prog 61 ⟨.strct [(0, 1, 22)], 1, 24, [(Go.Value.slice none 0 0)]⟩ := ⟨⟨Try.t61, _, by kernel_rfl, rfl, rfl, rfl, by kernel_rfl⟩, ⟨_, Try.underlying61, by kernel_rfl, Try.stoodInHeld61, by kernel_rfl⟩, by kernel_rfl⟩
theorem tok62 : Wk.TOk Try.prog 62 ⟨.func, 1, 8, [Go.Value.nilFunc]⟩ := ⟨⟨Try.t62, _, by kernel_rfl, rfl, rfl, rfl, by kernel_rfl⟩, ⟨_, _, _, Try.underlying62⟩, by kernel_rfl⟩
theorem tok63 : Wk.TOk Try.prog 63 ⟨.func, 1, 8, [Go.Value.nilFunc]⟩ := ⟨⟨Try.t63, _, by kernel_rfl, rfl, rfl, rfl, by kernel_rfl⟩, ⟨_, _, _, Try.underlying63⟩, by kernel_rfl⟩
theorem tok64 : Wk.TOk Try.prog 64 ⟨.func, 1, 8, [Go.Value.nilFunc]⟩ := ⟨⟨Try.t64, _, by kernel_rfl, rfl, rfl, rfl, by kernel_rfl⟩, ⟨_, _, _, Try.underlying64⟩, by kernel_rfl⟩
theorem tok65 : Wk.TOk Try.prog 65 ⟨.slice 5, 1, 24, [(Go.Value.slice none 0 0)]⟩ := ⟨⟨Try.t65, _, by kernel_rfl, rfl, rfl, rfl, by kernel_rfl⟩, Try.underlying65, by kernel_rfl⟩
theorem tok66 : Wk.TOk Try.prog 66 ⟨.func, 1, 8, [Go.Value.nilFunc]⟩ := ⟨⟨Try.t66, _, by kernel_rfl, rfl, rfl, rfl, by kernel_rfl⟩, ⟨_, _, _, Try.underlying66⟩, by kernel_rfl⟩
theorem tok67 : Wk.TOk Try.prog 67 ⟨.func, 1, 8, [Go.Value.nilFunc]⟩ := ⟨⟨Try.t67, _, by kernel_rfl, rfl, rfl, rfl, by kernel_rfl⟩, ⟨_, _, _, Try.underlying67⟩, by kernel_rfl⟩
theorem tok68 : Wk.TOk Try.prog 68 ⟨.func, 1, 8, [Go.Value.nilFunc]⟩ := ⟨⟨Try.t68, _, by kernel_rfl, rfl, rfl, rfl, by kernel_rfl⟩, ⟨_, _, _, Try.underlying68⟩, by kernel_rfl⟩
theorem tok69 : Wk.TOk Try.prog 69 ⟨.slice 3, 1, 24, [(Go.Value.slice none 0 0)]⟩ := ⟨⟨Try.t69, _, by kernel_rfl, rfl, rfl, rfl, by kernel_rfl⟩, Try.underlying69, by kernel_rfl⟩
theorem tok70 : Wk.TOk Try.prog 70 ⟨.strct [(0, 1, 5), (1, 1, 3), (2, 1, 3), (3, 1, 3), (4, 1, 3), (5, 1, 9), (6, 1, 69)], 7, 80, [(Go.Value.int Go.IntKind.u8 0), (Go.Value.int Go.IntKind.i64 0), (Go.Value.int Go.IntKind.i64 0), (Go.Value.int Go.IntKind.i64 0), (Go.Value.int Go.IntKind.i64 0), (Go.Value.string { data := #[] }), (Go.Value.slice none 0 0)]⟩ := ⟨⟨Try.t70, _, by kernel_rfl, rfl, rfl, rfl, by kernel_rfl⟩, ⟨_, Try.underlying70, by kernel_rfl, Try.stoodInHeld70, by kernel_rfl⟩, by kernel_rfl⟩
theorem tok71 : Wk.TOk Try.prog 71 ⟨.strct [(0, 1, 5), (1, 1, 3), (2, 1, 3), (3, 1, 3), (4, 1, 3), (5, 1, 9), (6, 1, 69)], 7, 80, [(Go.Value.int Go.IntKind.u8 0), (Go.Value.int Go.IntKind.i64 0), (Go.Value.int Go.IntKind.i64 0), (Go.Value.int Go.IntKind.i64 0), (Go.Value.int Go.IntKind.i64 0), (Go.Value.string { data := #[] }), (Go.Value.slice none 0 0)]⟩ := ⟨⟨Try.t71, _, by kernel_rfl, rfl, rfl, rfl, by kernel_rfl⟩, ⟨_, Try.underlying71, by kernel_rfl, Try.stoodInHeld71, by kernel_rfl⟩, by kernel_rfl⟩
theorem tok73 : Wk.TOk Try.prog 73 ⟨.func, 1, 8, [Go.Value.nilFunc]⟩ := ⟨⟨Try.t73, _, by kernel_rfl, rfl, rfl, rfl, by kernel_rfl⟩, ⟨_, _, _, Try.underlying73⟩, by kernel_rfl⟩
theorem tok74 : Wk.TOk Try.prog 74 ⟨.ptr 77, 1, 8, [(Go.Value.pointer none)]⟩ := ⟨⟨Try.t74, _, by kernel_rfl, rfl, rfl, rfl, by kernel_rfl⟩, Try.underlying74, by kernel_rfl⟩
theorem tok75 : Wk.TOk Try.prog 75 ⟨.map 9 127, 1, 8, [(Go.Value.map none)]⟩ := ⟨⟨Try.t75, _, by kernel_rfl, rfl, rfl, rfl, by kernel_rfl⟩, Try.underlying75, by kernel_rfl⟩
theorem tok76 : Wk.TOk Try.prog 76 ⟨.strct [(0, 1, 23), (1, 1, 22), (2, 1, 75)], 3, 56, [(Go.Value.slice none 0 0), (Go.Value.slice none 0 0), (Go.Value.map none)]⟩ := ⟨⟨Try.t76, _, by kernel_rfl, rfl, rfl, rfl, by kernel_rfl⟩, ⟨_, Try.underlying76, by kernel_rfl, Try.stoodInHeld76, by kernel_rfl⟩, by kernel_rfl⟩
theorem tok77 : Wk.TOk Try.prog 77 ⟨.strct [(0, 1, 23), (1, 1, 22), (2, 1, 75)], 3, 56, [(Go.Value.slice none 0 0), (Go.Value.slice none 0 0), (Go.Value.map none)]⟩ := ⟨⟨Try.t77, _, by kernel_rfl, rfl, rfl, rfl, by kernel_rfl⟩, ⟨_, Try.underlying77, by kernel_rfl, Try.stoodInHeld77, by kernel_rfl⟩, by kernel_rfl⟩
theorem tok78 : Wk.TOk Try.prog 78 ⟨.func, 1, 8, [Go.Value.nilFunc]⟩ := ⟨⟨Try.t78, _, by kernel_rfl, rfl, rfl, rfl, by kernel_rfl⟩, ⟨_, _, _, Try.underlying78⟩, by kernel_rfl⟩
theorem tok79 : Wk.TOk Try.prog 79 ⟨.func, 1, 8, [Go.Value.nilFunc]⟩ := ⟨⟨Try.t79, _, by kernel_rfl, rfl, rfl, rfl, by kernel_rfl⟩, ⟨_, _, _, Try.underlying79⟩, by kernel_rfl⟩
theorem tok80 : Wk.TOk Try.prog 80 ⟨.func, 1, 8, [Go.Value.nilFunc]⟩ := ⟨⟨Try.t80, _, by kernel_rfl, rfl, rfl, rfl, by kernel_rfl⟩, ⟨_, _, _, Try.underlying80⟩, by kernel_rfl⟩
theorem tok81 : Wk.TOk Try.prog 81 ⟨.int Go.IntKind.u64, 1, 8, [(Go.Value.int Go.IntKind.u64 0)]⟩ := ⟨⟨Try.t81, _, by kernel_rfl, rfl, rfl, rfl, by kernel_rfl⟩, Try.underlying81, by kernel_rfl⟩
theorem tok82 : Wk.TOk Try.prog 82 ⟨.func, 1, 8, [Go.Value.nilFunc]⟩ := ⟨⟨Try.t82, _, by kernel_rfl, rfl, rfl, rfl, by kernel_rfl⟩, ⟨_, _, _, Try.underlying82⟩, by kernel_rfl⟩
theorem tok84 : Wk.TOk Try.prog 84 ⟨.func, 1, 8, [Go.Value.nilFunc]⟩ := ⟨⟨Try.t84, _, by kernel_rfl, rfl, rfl, rfl, by kernel_rfl⟩, ⟨_, _, _, Try.underlying84⟩, by kernel_rfl⟩
theorem tok85 : Wk.TOk Try.prog 85 ⟨.strct [], 0, 0, []⟩ := ⟨⟨Try.t85, _, by kernel_rfl, rfl, rfl, rfl, by kernel_rfl⟩, ⟨_, Try.underlying85, by kernel_rfl, Try.stoodInHeld85, by kernel_rfl⟩, by kernel_rfl⟩
theorem tok86 : Wk.TOk Try.prog 86 ⟨.strct [], 0, 0, []⟩ := ⟨⟨Try.t86, _, by kernel_rfl, rfl, rfl, rfl, by kernel_rfl⟩, ⟨_, Try.underlying86, by kernel_rfl, Try.stoodInHeld86, by kernel_rfl⟩, by kernel_rfl⟩
theorem tok87 : Wk.TOk Try.prog 87 ⟨.iface, 1, 16, [Go.Value.nilIface]⟩ := ⟨⟨Try.t87, _, by kernel_rfl, rfl, rfl, rfl, by kernel_rfl⟩, ⟨_, Try.underlying87⟩, by kernel_rfl⟩
theorem tok88 : Wk.TOk Try.prog 88 ⟨.iface, 1, 16, [Go.Value.nilIface]⟩ := ⟨⟨Try.t88, _, by kernel_rfl, rfl, rfl, rfl, by kernel_rfl⟩, ⟨_, Try.underlying88⟩, by kernel_rfl⟩
theorem tok89 : Wk.TOk Try.prog 89 ⟨.strct [(0, 1, 88)], 1, 16, [Go.Value.nilIface]⟩ := ⟨⟨Try.t89, _, by kernel_rfl, rfl, rfl, rfl, by kernel_rfl⟩, ⟨_, Try.underlying89, by kernel_rfl, Try.stoodInHeld89, by kernel_rfl⟩, by kernel_rfl⟩
theorem tok90 : Wk.TOk Try.prog 90 ⟨.strct [(0, 1, 88)], 1, 16, [Go.Value.nilIface]⟩ := ⟨⟨Try.t90, _, by kernel_rfl, rfl, rfl, rfl, by kernel_rfl⟩, ⟨_, Try.underlying90, by kernel_rfl, Try.stoodInHeld90, by kernel_rfl⟩, by kernel_rfl⟩
theorem tok91 : Wk.TOk Try.prog 91 ⟨.strct [(0, 1, 9)], 1, 16, [(Go.Value.string { data := #[] })]⟩ := ⟨⟨Try.t91, _, by kernel_rfl, rfl, rfl, rfl, by kernel_rfl⟩, ⟨_, Try.underlying91, by kernel_rfl, Try.stoodInHeld91, by kernel_rfl⟩, by kernel_rfl⟩
theorem tok92 : Wk.TOk Try.prog 92 ⟨.strct [(0, 1, 9)], 1, 16, [(Go.Value.string { data := #[] })]⟩ := ⟨⟨Try.t92, _, by kernel_rfl, rfl, rfl, rfl, by kernel_rfl⟩, ⟨_, Try.underlying92, by kernel_rfl, Try.stoodInHeld92, by kernel_rfl⟩, by kernel_rfl⟩
theorem tok93 : Wk.TOk Try.prog 93 ⟨.func, 1, 8, [Go.Value.nilFunc]⟩ := ⟨⟨Try.t93, _, by kernel_rfl, rfl, rfl, rfl, by kernel_rfl⟩, ⟨_, _, _, Try.underlying93⟩, by kernel_rfl⟩
theorem tok96 : Wk.TOk Try.prog 96 ⟨.func, 1, 8, [Go.Value.nilFunc]⟩ := ⟨⟨Try.t96, _, by kernel_rfl, rfl, rfl, rfl, by kernel_rfl⟩, ⟨_, _, _, Try.underlying96⟩, by kernel_rfl⟩
theorem tok97 : Wk.TOk Try.prog 97 ⟨.func, 1, 8, [Go.Value.nilFunc]⟩ := ⟨⟨Try.t97, _, by kernel_rfl, rfl, rfl, rfl, by kernel_rfl⟩, ⟨_, _, _, Try.underlying97⟩, by kernel_rfl⟩
theorem tok98 : Wk.TOk Try.prog 98 ⟨.func, 1, 8, [Go.Value.nilFunc]⟩ := ⟨⟨Try.t98, _, by kernel_rfl, rfl, rfl, rfl, by kernel_rfl⟩, ⟨_, _, _, Try.underlying98⟩, by kernel_rfl⟩
theorem tok100 : Wk.TOk Try.prog 100 ⟨.func, 1, 8, [Go.Value.nilFunc]⟩ := ⟨⟨Try.t100, _, by kernel_rfl, rfl, rfl, rfl, by kernel_rfl⟩, ⟨_, _, _, Try.underlying100⟩, by kernel_rfl⟩
theorem tok101 : Wk.TOk Try.prog 101 ⟨.func, 1, 8, [Go.Value.nilFunc]⟩ := ⟨⟨Try.t101, _, by kernel_rfl, rfl, rfl, rfl, by kernel_rfl⟩, ⟨_, _, _, Try.underlying101⟩, by kernel_rfl⟩
theorem tok102 : Wk.TOk Try.prog 102 ⟨.map 9 110, 1, 8, [(Go.Value.map none)]⟩ := ⟨⟨Try.t102, _, by kernel_rfl, rfl, rfl, rfl, by kernel_rfl⟩, Try.underlying102, by kernel_rfl⟩
theorem tok103 : Wk.TOk Try.prog 103 ⟨.strct [(0, 1, 102)], 1, 8, [(Go.Value.map none)]⟩ := ⟨⟨Try.t103, _, by kernel_rfl, rfl, rfl, rfl, by kernel_rfl⟩, ⟨_, Try.underlying103, by kernel_rfl, Try.stoodInHeld103, by kernel_rfl⟩, by kernel_rfl⟩
theorem tok104 : Wk.TOk Try.prog 104 ⟨.strct [(0, 1, 102)], 1, 8, [(Go.Value.map none)]⟩ := ⟨⟨Try.t104, _, by kernel_rfl, rfl, rfl, rfl, by kernel_rfl⟩, ⟨_, Try.underlying104, by kernel_rfl, Try.stoodInHeld104, by kernel_rfl⟩, by kernel_rfl⟩
theorem tok105 : Wk.TOk Try.prog 105 ⟨.func, 1, 8, [Go.Value.nilFunc]⟩ := ⟨⟨Try.t105, _, by kernel_rfl, rfl, rfl, rfl, by kernel_rfl⟩, ⟨_, _, _, Try.underlying105⟩, by kernel_rfl⟩
theorem tok106 : Wk.TOk Try.prog 106 ⟨.func, 1, 8, [Go.Value.nilFunc]⟩ := ⟨⟨Try.t106, _, by kernel_rfl, rfl, rfl, rfl, by kernel_rfl⟩, ⟨_, _, _, Try.underlying106⟩, by kernel_rfl⟩
theorem tok107 : Wk.TOk Try.prog 107 ⟨.func, 1, 8, [Go.Value.nilFunc]⟩ := ⟨⟨Try.t107, _, by kernel_rfl, rfl, rfl, rfl, by kernel_rfl⟩, ⟨_, _, _, Try.underlying107⟩, by kernel_rfl⟩
theorem tok108 : Wk.TOk Try.prog 108 ⟨.func, 1, 8, [Go.Value.nilFunc]⟩ := ⟨⟨Try.t108, _, by kernel_rfl, rfl, rfl, rfl, by kernel_rfl⟩, ⟨_, _, _, Try.underlying108⟩, by kernel_rfl⟩
theorem tok109 : Wk.TOk Try.prog 109 ⟨.strct [(0, 1, 22), (1, 1, 4)], 2, 32, [(Go.Value.slice none 0 0), (Go.Value.bool false)]⟩ := ⟨⟨Try.t109, _, by kernel_rfl, rfl, rfl, rfl, by kernel_rfl⟩, ⟨_, Try.underlying109, by kernel_rfl, Try.stoodInHeld109, by kernel_rfl⟩, by kernel_rfl⟩
theorem tok110 : Wk.TOk Try.prog 110 ⟨.strct [(0, 1, 22), (1, 1, 4)], 2, 32, [(Go.Value.slice none 0 0), (Go.Value.bool false)]⟩ := ⟨⟨Try.t110, _, by kernel_rfl, rfl, rfl, rfl, by kernel_rfl⟩, ⟨_, Try.underlying110, by kernel_rfl, Try.stoodInHeld110, by kernel_rfl⟩, by kernel_rfl⟩
theorem tok111 : Wk.TOk Try.prog 111 ⟨.func, 1, 8, [Go.Value.nilFunc]⟩ := ⟨⟨Try.t111, _, by kernel_rfl, rfl, rfl, rfl, by kernel_rfl⟩, ⟨_, _, _, Try.underlying111⟩, by kernel_rfl⟩
theorem tok112 : Wk.TOk Try.prog 112 ⟨.func, 1, 8, [Go.Value.nilFunc]⟩ := ⟨⟨Try.t112, _, by kernel_rfl, rfl, rfl, rfl, by kernel_rfl⟩, ⟨_, _, _, Try.underlying112⟩, by kernel_rfl⟩
theorem tok113 : Wk.TOk Try.prog 113 ⟨.func, 1, 8, [Go.Value.nilFunc]⟩ := ⟨⟨Try.t113, _, by kernel_rfl, rfl, rfl, rfl, by kernel_rfl⟩, ⟨_, _, _, Try.underlying113⟩, by kernel_rfl⟩
theorem tok114 : Wk.TOk Try.prog 114 ⟨.func, 1, 8, [Go.Value.nilFunc]⟩ := ⟨⟨Try.t114, _, by kernel_rfl, rfl, rfl, rfl, by kernel_rfl⟩, ⟨_, _, _, Try.underlying114⟩, by kernel_rfl⟩
theorem tok115 : Wk.TOk Try.prog 115 ⟨.int Go.IntKind.u64, 1, 8, [(Go.Value.int Go.IntKind.u64 0)]⟩ := ⟨⟨Try.t115, _, by kernel_rfl, rfl, rfl, rfl, by kernel_rfl⟩, Try.underlying115, by kernel_rfl⟩
theorem tok116 : Wk.TOk Try.prog 116 ⟨.strct [(0, 1, 3), (1, 1, 29)], 2, 16, [(Go.Value.int Go.IntKind.i64 0), (Go.Value.int Go.IntKind.i64 0)]⟩ := ⟨⟨Try.t116, _, by kernel_rfl, rfl, rfl, rfl, by kernel_rfl⟩, ⟨_, Try.underlying116, by kernel_rfl, Try.stoodInHeld116, by kernel_rfl⟩, by kernel_rfl⟩
theorem tok117 : Wk.TOk Try.prog 117 ⟨.strct [(0, 1, 3), (1, 1, 29)], 2, 16, [(Go.Value.int Go.IntKind.i64 0), (Go.Value.int Go.IntKind.i64 0)]⟩ := ⟨⟨Try.t117, _, by kernel_rfl, rfl, rfl, rfl, by kernel_rfl⟩, ⟨_, Try.underlying117, by kernel_rfl, Try.stoodInHeld117, by kernel_rfl⟩, by kernel_rfl⟩
theorem tok119 : Wk.TOk Try.prog 119 ⟨.ptr 121, 1, 8, [(Go.Value.pointer none)]⟩ := ⟨⟨Try.t119, _, by kernel_rfl, rfl, rfl, rfl, by kernel_rfl⟩, Try.underlying119, by kernel_rfl⟩
theorem tok120 : Wk.TOk Try.prog 120 ⟨.strct [(0, 1, 22), (1, 1, 22)], 2, 48, [(Go.Value.slice none 0 0), (Go.Value.slice none 0 0)]⟩ := ⟨⟨Try.t120, _, by kernel_rfl, rfl, rfl, rfl, by kernel_rfl⟩, ⟨_, Try.underlying120, by kernel_rfl, Try.stoodInHeld120, by kernel_rfl⟩, by kernel_rfl⟩
theorem tok121 : Wk.TOk Try.prog 121 ⟨.strct [(0, 1, 22), (1, 1, 22)], 2, 48, [(Go.Value.slice none 0 0), (Go.Value.slice none 0 0)]⟩ := ⟨⟨Try.t121, _, by kernel_rfl, rfl, rfl, rfl, by kernel_rfl⟩, ⟨_, Try.underlying121, by kernel_rfl, Try.stoodInHeld121, by kernel_rfl⟩, by kernel_rfl⟩
theorem tok122 : Wk.TOk Try.prog 122 ⟨.func, 1, 8, [Go.Value.nilFunc]⟩ := ⟨⟨Try.t122, _, by kernel_rfl, rfl, rfl, rfl, by kernel_rfl⟩, ⟨_, _, _, Try.underlying122⟩, by kernel_rfl⟩
theorem tok125 : Wk.TOk Try.prog 125 ⟨.func, 1, 8, [Go.Value.nilFunc]⟩ := ⟨⟨Try.t125, _, by kernel_rfl, rfl, rfl, rfl, by kernel_rfl⟩, ⟨_, _, _, Try.underlying125⟩, by kernel_rfl⟩
theorem tok126 : Wk.TOk Try.prog 126 ⟨.strct [(0, 1, 3)], 1, 8, [(Go.Value.int Go.IntKind.i64 0)]⟩ := ⟨⟨Try.t126, _, by kernel_rfl, rfl, rfl, rfl, by kernel_rfl⟩, ⟨_, Try.underlying126, by kernel_rfl, Try.stoodInHeld126, by kernel_rfl⟩, by kernel_rfl⟩
theorem tok127 : Wk.TOk Try.prog 127 ⟨.strct [(0, 1, 3)], 1, 8, [(Go.Value.int Go.IntKind.i64 0)]⟩ := ⟨⟨Try.t127, _, by kernel_rfl, rfl, rfl, rfl, by kernel_rfl⟩, ⟨_, Try.underlying127, by kernel_rfl, Try.stoodInHeld127, by kernel_rfl⟩, by kernel_rfl⟩
theorem tok129 : Wk.TOk Try.prog 129 ⟨.func, 1, 8, [Go.Value.nilFunc]⟩ := ⟨⟨Try.t129, _, by kernel_rfl, rfl, rfl, rfl, by kernel_rfl⟩, ⟨_, _, _, Try.underlying129⟩, by kernel_rfl⟩
theorem tok130 : Wk.TOk Try.prog 130 ⟨.func, 1, 8, [Go.Value.nilFunc]⟩ := ⟨⟨Try.t130, _, by kernel_rfl, rfl, rfl, rfl, by kernel_rfl⟩, ⟨_, _, _, Try.underlying130⟩, by kernel_rfl⟩
theorem tok131 : Wk.TOk Try.prog 131 ⟨.func, 1, 8, [Go.Value.nilFunc]⟩ := ⟨⟨Try.t131, _, by kernel_rfl, rfl, rfl, rfl, by kernel_rfl⟩, ⟨_, _, _, Try.underlying131⟩, by kernel_rfl⟩
theorem tok132 : Wk.TOk Try.prog 132 ⟨.func, 1, 8, [Go.Value.nilFunc]⟩ := ⟨⟨Try.t132, _, by kernel_rfl, rfl, rfl, rfl, by kernel_rfl⟩, ⟨_, _, _, Try.underlying132⟩, by kernel_rfl⟩
theorem tok133 : Wk.TOk Try.prog 133 ⟨.func, 1, 8, [Go.Value.nilFunc]⟩ := ⟨⟨Try.t133, _, by kernel_rfl, rfl, rfl, rfl, by kernel_rfl⟩, ⟨_, _, _, Try.underlying133⟩, by kernel_rfl⟩
theorem tok134 : Wk.TOk Try.prog 134 ⟨.func, 1, 8, [Go.Value.nilFunc]⟩ := ⟨⟨Try.t134, _, by kernel_rfl, rfl, rfl, rfl, by kernel_rfl⟩, ⟨_, _, _, Try.underlying134⟩, by kernel_rfl⟩
theorem tok135 : Wk.TOk Try.prog 135 ⟨.func, 1, 8, [Go.Value.nilFunc]⟩ := ⟨⟨Try.t135, _, by kernel_rfl, rfl, rfl, rfl, by kernel_rfl⟩, ⟨_, _, _, Try.underlying135⟩, by kernel_rfl⟩
theorem tok136 : Wk.TOk Try.prog 136 ⟨.func, 1, 8, [Go.Value.nilFunc]⟩ := ⟨⟨Try.t136, _, by kernel_rfl, rfl, rfl, rfl, by kernel_rfl⟩, ⟨_, _, _, Try.underlying136⟩, by kernel_rfl⟩
theorem tok137 : Wk.TOk Try.prog 137 ⟨.func, 1, 8, [Go.Value.nilFunc]⟩ := ⟨⟨Try.t137, _, by kernel_rfl, rfl, rfl, rfl, by kernel_rfl⟩, ⟨_, _, _, Try.underlying137⟩, by kernel_rfl⟩
theorem tok138 : Wk.TOk Try.prog 138 ⟨.func, 1, 8, [Go.Value.nilFunc]⟩ := ⟨⟨Try.t138, _, by kernel_rfl, rfl, rfl, rfl, by kernel_rfl⟩, ⟨_, _, _, Try.underlying138⟩, by kernel_rfl⟩
theorem tok139 : Wk.TOk Try.prog 139 ⟨.func, 1, 8, [Go.Value.nilFunc]⟩ := ⟨⟨Try.t139, _, by kernel_rfl, rfl, rfl, rfl, by kernel_rfl⟩, ⟨_, _, _, Try.underlying139⟩, by kernel_rfl⟩
theorem tok140 : Wk.TOk Try.prog 140 ⟨.strct [(0, 1, 3), (1, 1, 3), (2, 1, 3)], 3, 24, [(Go.Value.int Go.IntKind.i64 0), (Go.Value.int Go.IntKind.i64 0), (Go.Value.int Go.IntKind.i64 0)]⟩ := ⟨⟨Try.t140, _, by kernel_rfl, rfl, rfl, rfl, by kernel_rfl⟩, ⟨_, Try.underlying140, by kernel_rfl, Try.stoodInHeld140, by kernel_rfl⟩, by kernel_rfl⟩
theorem tok141 : Wk.TOk Try.prog 141 ⟨.strct [(0, 1, 3), (1, 1, 3), (2, 1, 3)], 3, 24, [(Go.Value.int Go.IntKind.i64 0), (Go.Value.int Go.IntKind.i64 0), (Go.Value.int Go.IntKind.i64 0)]⟩ := ⟨⟨Try.t141, _, by kernel_rfl, rfl, rfl, rfl, by kernel_rfl⟩, ⟨_, Try.underlying141, by kernel_rfl, Try.stoodInHeld141, by kernel_rfl⟩, by kernel_rfl⟩
theorem tok142 : Wk.TOk Try.prog 142 ⟨.ptr 144, 1, 8, [(Go.Value.pointer none)]⟩ := ⟨⟨Try.t142, _, by kernel_rfl, rfl, rfl, rfl, by kernel_rfl⟩, Try.underlying142, by kernel_rfl⟩
theorem tok143 : Wk.TOk Try.prog 143 ⟨.strct [(0, 1, 142), (1, 1, 65)], 2, 32, [(Go.Value.pointer none), (Go.Value.slice none 0 0)]⟩ := ⟨⟨Try.t143, _, by kernel_rfl, rfl, rfl, rfl, by kernel_rfl⟩, ⟨_, Try.underlying143, by kernel_rfl, Try.stoodInHeld143, by kernel_rfl⟩, by kernel_rfl⟩
theorem tok144 : Wk.TOk Try.prog 144 ⟨.strct [(0, 1, 142), (1, 1, 65)], 2, 32, [(Go.Value.pointer none), (Go.Value.slice none 0 0)]⟩ := ⟨⟨Try.t144, _, by kernel_rfl, rfl, rfl, rfl, by kernel_rfl⟩, ⟨_, Try.underlying144, by kernel_rfl, Try.stoodInHeld144, by kernel_rfl⟩, by kernel_rfl⟩
theorem tok145 : Wk.TOk Try.prog 145 ⟨.iface, 1, 16, [Go.Value.nilIface]⟩ := ⟨⟨Try.t145, _, by kernel_rfl, rfl, rfl, rfl, by kernel_rfl⟩, ⟨_, Try.underlying145⟩, by kernel_rfl⟩
theorem tok146 : Wk.TOk Try.prog 146 ⟨.iface, 1, 16, [Go.Value.nilIface]⟩ := ⟨⟨Try.t146, _, by kernel_rfl, rfl, rfl, rfl, by kernel_rfl⟩, ⟨_, Try.underlying146⟩, by kernel_rfl⟩
theorem tok148 : Wk.TOk Try.prog 148 ⟨.func, 1, 8, [Go.Value.nilFunc]⟩ := ⟨⟨Try.t148, _, by kernel_rfl, rfl, rfl, rfl, by kernel_rfl⟩, ⟨_, _, _, Try.underlying148⟩, by kernel_rfl⟩
theorem tok149 : Wk.TOk Try.prog 149 ⟨.func, 1, 8, [Go.Value.nilFunc]⟩ := ⟨⟨Try.t149, _, by kernel_rfl, rfl, rfl, rfl, by kernel_rfl⟩, ⟨_, _, _, Try.underlying149⟩, by kernel_rfl⟩
theorem tok150 : Wk.TOk Try.prog 150 ⟨.arr 9 5, 9, 9, [(Go.Value.int Go.IntKind.u8 0), (Go.Value.int Go.IntKind.u8 0), (Go.Value.int Go.IntKind.u8 0), (Go.Value.int Go.IntKind.u8 0), (Go.Value.int Go.IntKind.u8 0), (Go.Value.int Go.IntKind.u8 0), (Go.Value.int Go.IntKind.u8 0), (Go.Value.int Go.IntKind.u8 0), (Go.Value.int Go.IntKind.u8 0)]⟩ := ⟨⟨Try.t150, _, by kernel_rfl, rfl, rfl, rfl, by kernel_rfl⟩, Try.underlying150, by kernel_rfl⟩
theorem tok151 : Wk.TOk Try.prog 151 ⟨.func, 1, 8, [Go.Value.nilFunc]⟩ := ⟨⟨Try.t151, _, by kernel_rfl, rfl, rfl, rfl, by kernel_rfl⟩, ⟨_, _, _, Try.underlying151⟩, by kernel_rfl⟩
theorem tok152 : Wk.TOk Try.prog 152 ⟨.strct [(0, 1, 3), (1, 1, 4), (2, 1, 4), (3, 1, 4), (4, 1, 151)], 5, 24, [(Go.Value.int Go.IntKind.i64 0), (Go.Value.bool false), (Go.Value.bool false), (Go.Value.bool false), Go.Value.nilFunc]⟩ := ⟨⟨Try.t152, _, by kernel_rfl, rfl, rfl, rfl, by kernel_rfl⟩, ⟨_, Try.underlying152, by kernel_rfl, Try.stoodInHeld152, by kernel_rfl⟩, by kernel_rfl⟩
theorem tok153 : Wk.TOk Try.prog 153 ⟨.strct [(0, 1, 3), (1, 1, 4), (2, 1, 4), (3, 1, 4), (4, 1, 151)], 5, 24, [(Go.Value.int Go.IntKind.i64 0), (Go.Value.bool false), (Go.Value.bool false), (Go.Value.bool false), Go.Value.nilFunc]⟩ := ⟨⟨Try.t153, _, by kernel_rfl, rfl, rfl, rfl, by kernel_rfl⟩, ⟨_, Try.underlying153, by kernel_rfl, Try.stoodInHeld153, by kernel_rfl⟩, by kernel_rfl⟩
theorem tok155 : Wk.TOk Try.prog 155 ⟨.map 5 153, 1, 8, [(Go.Value.map none)]⟩ := ⟨⟨Try.t155, _, by kernel_rfl, rfl, rfl, rfl, by kernel_rfl⟩, Try.underlying155, by kernel_rfl⟩
theorem tok156 : Wk.TOk Try.prog 156 ⟨.func, 1, 8, [Go.Value.nilFunc]⟩ := ⟨⟨Try.t156, _, by kernel_rfl, rfl, rfl, rfl, by kernel_rfl⟩, ⟨_, _, _, Try.underlying156⟩, by kernel_rfl⟩
theorem tok157 : Wk.TOk Try.prog 157 ⟨.func, 1, 8, [Go.Value.nilFunc]⟩ := ⟨⟨Try.t157, _, by kernel_rfl, rfl, rfl, rfl, by kernel_rfl⟩, ⟨_, _, _, Try.underlying157⟩, by kernel_rfl⟩
theorem tok159 : Wk.TOk Try.prog 159 ⟨.func, 1, 8, [Go.Value.nilFunc]⟩ := ⟨⟨Try.t159, _, by kernel_rfl, rfl, rfl, rfl, by kernel_rfl⟩, ⟨_, _, _, Try.underlying159⟩, by kernel_rfl⟩
theorem tok160 : Wk.TOk Try.prog 160 ⟨.strct [(0, 1, 29)], 1, 8, [(Go.Value.int Go.IntKind.i64 0)]⟩ := ⟨⟨Try.t160, _, by kernel_rfl, rfl, rfl, rfl, by kernel_rfl⟩, ⟨_, Try.underlying160, by kernel_rfl, Try.stoodInHeld160, by kernel_rfl⟩, by kernel_rfl⟩
theorem tok161 : Wk.TOk Try.prog 161 ⟨.strct [(0, 1, 29)], 1, 8, [(Go.Value.int Go.IntKind.i64 0)]⟩ := ⟨⟨Try.t161, _, by kernel_rfl, rfl, rfl, rfl, by kernel_rfl⟩, ⟨_, Try.underlying161, by kernel_rfl, Try.stoodInHeld161, by kernel_rfl⟩, by kernel_rfl⟩
theorem tok164 : Wk.TOk Try.prog 164 ⟨.func, 1, 8, [Go.Value.nilFunc]⟩ := ⟨⟨Try.t164, _, by kernel_rfl, rfl, rfl, rfl, by kernel_rfl⟩, ⟨_, _, _, Try.underlying164⟩, by kernel_rfl⟩
theorem tok165 : Wk.TOk Try.prog 165 ⟨.func, 1, 8, [Go.Value.nilFunc]⟩ := ⟨⟨Try.t165, _, by kernel_rfl, rfl, rfl, rfl, by kernel_rfl⟩, ⟨_, _, _, Try.underlying165⟩, by kernel_rfl⟩
theorem tok166 : Wk.TOk Try.prog 166 ⟨.func, 1, 8, [Go.Value.nilFunc]⟩ := ⟨⟨Try.t166, _, by kernel_rfl, rfl, rfl, rfl, by kernel_rfl⟩, ⟨_, _, _, Try.underlying166⟩, by kernel_rfl⟩
theorem tok167 : Wk.TOk Try.prog 167 ⟨.func, 1, 8, [Go.Value.nilFunc]⟩ := ⟨⟨Try.t167, _, by kernel_rfl, rfl, rfl, rfl, by kernel_rfl⟩, ⟨_, _, _, Try.underlying167⟩, by kernel_rfl⟩
theorem tok168 : Wk.TOk Try.prog 168 ⟨.func, 1, 8, [Go.Value.nilFunc]⟩ := ⟨⟨Try.t168, _, by kernel_rfl, rfl, rfl, rfl, by kernel_rfl⟩, ⟨_, _, _, Try.underlying168⟩, by kernel_rfl⟩
theorem tok169 : Wk.TOk Try.prog 169 ⟨.func, 1, 8, [Go.Value.nilFunc]⟩ := ⟨⟨Try.t169, _, by kernel_rfl, rfl, rfl, rfl, by kernel_rfl⟩, ⟨_, _, _, Try.underlying169⟩, by kernel_rfl⟩
theorem tok170 : Wk.TOk Try.prog 170 ⟨.func, 1, 8, [Go.Value.nilFunc]⟩ := ⟨⟨Try.t170, _, by kernel_rfl, rfl, rfl, rfl, by kernel_rfl⟩, ⟨_, _, _, Try.underlying170⟩, by kernel_rfl⟩
theorem tok171 : Wk.TOk Try.prog 171 ⟨.slice 141, 1, 24, [(Go.Value.slice none 0 0)]⟩ := ⟨⟨Try.t171, _, by kernel_rfl, rfl, rfl, rfl, by kernel_rfl⟩, Try.underlying171, by kernel_rfl⟩
theorem tok172 : Wk.TOk Try.prog 172 ⟨.ptr 5, 1, 8, [(Go.Value.pointer none)]⟩ := ⟨⟨Try.t172, _, by kernel_rfl, rfl, rfl, rfl, by kernel_rfl⟩, Try.underlying172, by kernel_rfl⟩
theorem tok173 : Wk.TOk Try.prog 173 ⟨.func, 1, 8, [Go.Value.nilFunc]⟩ := ⟨⟨Try.t173, _, by kernel_rfl, rfl, rfl, rfl, by kernel_rfl⟩, ⟨_, _, _, Try.underlying173⟩, by kernel_rfl⟩
theorem tok174 : Wk.TOk Try.prog 174 ⟨.int Go.IntKind.i64, 1, 8, [(Go.Value.int Go.IntKind.i64 0)]⟩ := ⟨⟨Try.t174, _, by kernel_rfl, rfl, rfl, rfl, by kernel_rfl⟩, Try.underlying174, by kernel_rfl⟩
theorem tok176 : Wk.TOk Try.prog 176 ⟨.func, 1, 8, [Go.Value.nilFunc]⟩ := ⟨⟨Try.t176, _, by kernel_rfl, rfl, rfl, rfl, by kernel_rfl⟩, ⟨_, _, _, Try.underlying176⟩, by kernel_rfl⟩
theorem tok177 : Wk.TOk Try.prog 177 ⟨.func, 1, 8, [Go.Value.nilFunc]⟩ := ⟨⟨Try.t177, _, by kernel_rfl, rfl, rfl, rfl, by kernel_rfl⟩, ⟨_, _, _, Try.underlying177⟩, by kernel_rfl⟩
theorem tok178 : Wk.TOk Try.prog 178 ⟨.func, 1, 8, [Go.Value.nilFunc]⟩ := ⟨⟨Try.t178, _, by kernel_rfl, rfl, rfl, rfl, by kernel_rfl⟩, ⟨_, _, _, Try.underlying178⟩, by kernel_rfl⟩
theorem tok180 : Wk.TOk Try.prog 180 ⟨.func, 1, 8, [Go.Value.nilFunc]⟩ := ⟨⟨Try.t180, _, by kernel_rfl, rfl, rfl, rfl, by kernel_rfl⟩, ⟨_, _, _, Try.underlying180⟩, by kernel_rfl⟩
theorem tok181 : Wk.TOk Try.prog 181 ⟨.func, 1, 8, [Go.Value.nilFunc]⟩ := ⟨⟨Try.t181, _, by kernel_rfl, rfl, rfl, rfl, by kernel_rfl⟩, ⟨_, _, _, Try.underlying181⟩, by kernel_rfl⟩
theorem tok182 : Wk.TOk Try.prog 182 ⟨.int Go.IntKind.u32, 1, 4, [(Go.Value.int Go.IntKind.u32 0)]⟩ := ⟨⟨Try.t182, _, by kernel_rfl, rfl, rfl, rfl, by kernel_rfl⟩, Try.underlying182, by kernel_rfl⟩
theorem tok183 : Wk.TOk Try.prog 183 ⟨.func, 1, 8, [Go.Value.nilFunc]⟩ := ⟨⟨Try.t183, _, by kernel_rfl, rfl, rfl, rfl, by kernel_rfl⟩, ⟨_, _, _, Try.underlying183⟩, by kernel_rfl⟩
theorem tok184 : Wk.TOk Try.prog 184 ⟨.func, 1, 8, [Go.Value.nilFunc]⟩ := ⟨⟨Try.t184, _, by kernel_rfl, rfl, rfl, rfl, by kernel_rfl⟩, ⟨_, _, _, Try.underlying184⟩, by kernel_rfl⟩
theorem tok186 : Wk.TOk Try.prog 186 ⟨.func, 1, 8, [Go.Value.nilFunc]⟩ := ⟨⟨Try.t186, _, by kernel_rfl, rfl, rfl, rfl, by kernel_rfl⟩, ⟨_, _, _, Try.underlying186⟩, by kernel_rfl⟩
theorem tok187 : Wk.TOk Try.prog 187 ⟨.func, 1, 8, [Go.Value.nilFunc]⟩ := ⟨⟨Try.t187, _, by kernel_rfl, rfl, rfl, rfl, by kernel_rfl⟩, ⟨_, _, _, Try.underlying187⟩, by kernel_rfl⟩
theorem tok188 : Wk.TOk Try.prog 188 ⟨.func, 1, 8, [Go.Value.nilFunc]⟩ := ⟨⟨Try.t188, _, by kernel_rfl, rfl, rfl, rfl, by kernel_rfl⟩, ⟨_, _, _, Try.underlying188⟩, by kernel_rfl⟩
theorem tok189 : Wk.TOk Try.prog 189 ⟨.func, 1, 8, [Go.Value.nilFunc]⟩ := ⟨⟨Try.t189, _, by kernel_rfl, rfl, rfl, rfl, by kernel_rfl⟩, ⟨_, _, _, Try.underlying189⟩, by kernel_rfl⟩
theorem tok191 : Wk.TOk Try.prog 191 ⟨.func, 1, 8, [Go.Value.nilFunc]⟩ := ⟨⟨Try.t191, _, by kernel_rfl, rfl, rfl, rfl, by kernel_rfl⟩, ⟨_, _, _, Try.underlying191⟩, by kernel_rfl⟩
theorem tok192 : Wk.TOk Try.prog 192 ⟨.func, 1, 8, [Go.Value.nilFunc]⟩ := ⟨⟨Try.t192, _, by kernel_rfl, rfl, rfl, rfl, by kernel_rfl⟩, ⟨_, _, _, Try.underlying192⟩, by kernel_rfl⟩
theorem tok193 : Wk.TOk Try.prog 193 ⟨.func, 1, 8, [Go.Value.nilFunc]⟩ := ⟨⟨Try.t193, _, by kernel_rfl, rfl, rfl, rfl, by kernel_rfl⟩, ⟨_, _, _, Try.underlying193⟩, by kernel_rfl⟩
theorem tok194 : Wk.TOk Try.prog 194 ⟨.int Go.IntKind.u64, 1, 8, [(Go.Value.int Go.IntKind.u64 0)]⟩ := ⟨⟨Try.t194, _, by kernel_rfl, rfl, rfl, rfl, by kernel_rfl⟩, Try.underlying194, by kernel_rfl⟩
theorem tok195 : Wk.TOk Try.prog 195 ⟨.func, 1, 8, [Go.Value.nilFunc]⟩ := ⟨⟨Try.t195, _, by kernel_rfl, rfl, rfl, rfl, by kernel_rfl⟩, ⟨_, _, _, Try.underlying195⟩, by kernel_rfl⟩
theorem tok196 : Wk.TOk Try.prog 196 ⟨.func, 1, 8, [Go.Value.nilFunc]⟩ := ⟨⟨Try.t196, _, by kernel_rfl, rfl, rfl, rfl, by kernel_rfl⟩, ⟨_, _, _, Try.underlying196⟩, by kernel_rfl⟩
theorem tok197 : Wk.TOk Try.prog 197 ⟨.func, 1, 8, [Go.Value.nilFunc]⟩ := ⟨⟨Try.t197, _, by kernel_rfl, rfl, rfl, rfl, by kernel_rfl⟩, ⟨_, _, _, Try.underlying197⟩, by kernel_rfl⟩
theorem tok198 : Wk.TOk Try.prog 198 ⟨.ptr 3, 1, 8, [(Go.Value.pointer none)]⟩ := ⟨⟨Try.t198, _, by kernel_rfl, rfl, rfl, rfl, by kernel_rfl⟩, Try.underlying198, by kernel_rfl⟩
theorem tok199 : Wk.TOk Try.prog 199 ⟨.func, 1, 8, [Go.Value.nilFunc]⟩ := ⟨⟨Try.t199, _, by kernel_rfl, rfl, rfl, rfl, by kernel_rfl⟩, ⟨_, _, _, Try.underlying199⟩, by kernel_rfl⟩
theorem tok200 : Wk.TOk Try.prog 200 ⟨.ptr 194, 1, 8, [(Go.Value.pointer none)]⟩ := ⟨⟨Try.t200, _, by kernel_rfl, rfl, rfl, rfl, by kernel_rfl⟩, Try.underlying200, by kernel_rfl⟩
theorem tok201 : Wk.TOk Try.prog 201 ⟨.func, 1, 8, [Go.Value.nilFunc]⟩ := ⟨⟨Try.t201, _, by kernel_rfl, rfl, rfl, rfl, by kernel_rfl⟩, ⟨_, _, _, Try.underlying201⟩, by kernel_rfl⟩
theorem tok204 : Wk.TOk Try.prog 204 ⟨.arr 0 16, 0, 0, []⟩ := ⟨⟨Try.t204, _, by kernel_rfl, rfl, rfl, rfl, by kernel_rfl⟩, Try.underlying204, by kernel_rfl⟩
theorem tok207 : Wk.TOk Try.prog 207 ⟨.int Go.IntKind.u8, 1, 1, [(Go.Value.int Go.IntKind.u8 0)]⟩ := ⟨⟨Try.t207, _, by kernel_rfl, rfl, rfl, rfl, by kernel_rfl⟩, Try.underlying207, by kernel_rfl⟩
theorem tok208 : Wk.TOk Try.prog 208 ⟨.int Go.IntKind.u8, 1, 1, [(Go.Value.int Go.IntKind.u8 0)]⟩ := ⟨⟨Try.t208, _, by kernel_rfl, rfl, rfl, rfl, by kernel_rfl⟩, Try.underlying208, by kernel_rfl⟩
theorem tok209 : Wk.TOk Try.prog 209 ⟨.func, 1, 8, [Go.Value.nilFunc]⟩ := ⟨⟨Try.t209, _, by kernel_rfl, rfl, rfl, rfl, by kernel_rfl⟩, ⟨_, _, _, Try.underlying209⟩, by kernel_rfl⟩
theorem tok210 : Wk.TOk Try.prog 210 ⟨.int Go.IntKind.i32, 1, 4, [(Go.Value.int Go.IntKind.i32 0)]⟩ := ⟨⟨Try.t210, _, by kernel_rfl, rfl, rfl, rfl, by kernel_rfl⟩, Try.underlying210, by kernel_rfl⟩
theorem tok211 : Wk.TOk Try.prog 211 ⟨.int Go.IntKind.i32, 1, 4, [(Go.Value.int Go.IntKind.i32 0)]⟩ := ⟨⟨Try.t211, _, by kernel_rfl, rfl, rfl, rfl, by kernel_rfl⟩, Try.underlying211, by kernel_rfl⟩
theorem tok214 : Wk.TOk Try.prog 214 ⟨.func, 1, 8, [Go.Value.nilFunc]⟩ := ⟨⟨Try.t214, _, by kernel_rfl, rfl, rfl, rfl, by kernel_rfl⟩, ⟨_, _, _, Try.underlying214⟩, by kernel_rfl⟩
theorem tok215 : Wk.TOk Try.prog 215 ⟨.ptr 225, 1, 8, [(Go.Value.pointer none)]⟩ := ⟨⟨Try.t215, _, by kernel_rfl, rfl, rfl, rfl, by kernel_rfl⟩, Try.underlying215, by kernel_rfl⟩
theorem tok216 : Wk.TOk Try.prog 216 ⟨.func, 1, 8, [Go.Value.nilFunc]⟩ := ⟨⟨Try.t216, _, by kernel_rfl, rfl, rfl, rfl, by kernel_rfl⟩, ⟨_, _, _, Try.underlying216⟩, by kernel_rfl⟩
theorem tok217 : Wk.TOk Try.prog 217 ⟨.ptr 232, 1, 8, [(Go.Value.pointer none)]⟩ := ⟨⟨Try.t217, _, by kernel_rfl, rfl, rfl, rfl, by kernel_rfl⟩, Try.underlying217, by kernel_rfl⟩
theorem tok218 : Wk.TOk Try.prog 218 ⟨.func, 1, 8, [Go.Value.nilFunc]⟩ := ⟨⟨Try.t218, _, by kernel_rfl, rfl, rfl, rfl, by kernel_rfl⟩, ⟨_, _, _, Try.underlying218⟩, by kernel_rfl⟩
theorem tok219 : Wk.TOk Try.prog 219 ⟨.strct [(0, 1, 217), (1, 1, 217)], 2, 16, [(Go.Value.pointer none), (Go.Value.pointer none)]⟩ := ⟨⟨Try.t219, _, by kernel_rfl, rfl, rfl, rfl, by kernel_rfl⟩, ⟨_, Try.underlying219, by kernel_rfl, Try.stoodInHeld219, by kernel_rfl⟩, by kernel_rfl⟩
theorem tok220 : Wk.TOk Try.prog 220 ⟨.strct [(0, 1, 217), (1, 1, 217)], 2, 16, [(Go.Value.pointer none), (Go.Value.pointer none)]⟩ := ⟨⟨Try.t220, _, by kernel_rfl, rfl, rfl, rfl, by kernel_rfl⟩, ⟨_, Try.underlying220, by kernel_rfl, Try.stoodInHeld220, by kernel_rfl⟩, by kernel_rfl⟩
theorem tok221 : Wk.TOk Try.prog 221 ⟨.func, 1, 8, [Go.Value.nilFunc]⟩ := ⟨⟨Try.t221, _, by kernel_rfl, rfl, rfl, rfl, by kernel_rfl⟩, ⟨_, _, _, Try.underlying221⟩, by kernel_rfl⟩
theorem tok222 : Wk.TOk Try.prog 222 ⟨.arr 8 182, 8, 32, [(Go.Value.int Go.IntKind.u32 0), (Go.Value.int Go.IntKind.u32 0), (Go.Value.int Go.IntKind.u32 0), (Go.Value.int Go.IntKind.u32 0), (Go.Value.int Go.IntKind.u32 0), (Go.Value.int Go.IntKind.u32 0), (Go.Value.int Go.IntKind.u32 0), (Go.Value.int Go.IntKind.u32 0)]⟩ := ⟨⟨Try.t222, _, by kernel_rfl, rfl, rfl, rfl, by kernel_rfl⟩, Try.underlying222, by kernel_rfl⟩
theorem tok223 : Wk.TOk Try.prog 223 ⟨.arr 64 5, 64, 64, [(Go.Value.int Go.IntKind.u8 0), (Go.Value.int Go.IntKind.u8 0), (Go.Value.int Go.IntKind.u8 0), (Go.Value.int Go.IntKind.u8 0), (Go.Value.int Go.IntKind.u8 0), (Go.Value.int Go.IntKind.u8 0), (Go.Value.int Go.IntKind.u8 0), (Go.Value.int Go.IntKind.u8 0), (Go.Value.int Go.IntKind.u8 0), (Go.Value.int Go.IntKind.u8 0), (Go.Value.int Go.IntKind.u8 0), (Go.Value.int Go.IntKind.u8 0), (Go.Value.int Go.IntKind.u8 0), (Go.Value.int Go.IntKind.u8 0), (Go.Value.int Go.IntKind.u8 0), (Go.Value.int Go.IntKind.u8 0), (Go.Value.int Go.IntKind.u8 0), (Go.Value.int Go.IntKind.u8 0), (Go.Value.int Go.IntKind.u8 0), (Go.Value.int Go.IntKind.u8 0), (Go.Value.int Go.IntKind.u8 0), (Go.Value.int Go.IntKind.u8 0), (Go.Value.int Go.IntKind.u8 0), (Go.Value.int Go.IntKind.u8 0), (Go.Value.int Go.IntKind.u8 0), (Go.Value.int Go.IntKind.u8 0), (Go.Value.int Go.IntKind.u8 0), (Go.Value.int Go.IntKind.u8 0), (Go.Value.int Go.IntKind.u8 0), (Go.Value.int Go.IntKind.u8 0), (Go.Value.int Go.IntKind.u8 0), (Go.Value.int Go.IntKind.u8 0), (Go.Value.int Go.IntKind.u8 0), (Go.Value.int Go.IntKind.u8 0), (Go.Value.int Go.IntKind.u8 0), (Go.Value.int Go.IntKind.u8 0), (Go.Value.int Go.IntKind.u8 0), (Go.Value.int Go.IntKind.u8 0), (Go.Value.int Go.IntKind.u8 0), (Go.Value.int Go.IntKind.u8 0), (Go.Value.int Go.IntKind.u8 0), (Go.Value.int Go.IntKind.u8 0), (Go.Value.int Go.IntKind.u8 0), (Go.Value.int Go.IntKind.u8 0), (Go.Value.int Go.IntKind.u8 0), (Go.Value.int Go.IntKind.u8 0), (Go.Value.int Go.IntKind.u8 0), (Go.Value.int Go.IntKind.u8 0), (Go.Value.int Go.IntKind.u8 0), (Go.Value.int Go.IntKind.u8 0), (Go.Value.int Go.IntKind.u8 0), (Go.Value.int Go.IntKind.u8 0), (Go.Value.int Go.IntKind.u8 0), (Go.Value.int Go.IntKind.u8 0), (Go.Value.int Go.IntKind.u8 0), (Go.Value.int Go.IntKind.u8 0), (Go.Value.int Go.IntKind.u8 0), (Go.Value.int Go.IntKind.u8 0), (Go.Value.int Go.IntKind.u8 0), (Go.Value.int Go.IntKind.u8 0), (Go.Value.int Go.IntKind.u8 0), (Go.Value.int Go.IntKind.u8 0), (Go.Value.int Go.IntKind.u8 0), (Go.Value.int Go.IntKind.u8 0)]⟩ := ⟨⟨Try.t223, _, by kernel_rfl, rfl, rfl, rfl, by kernel_rfl⟩, Try.underlying223, by kernel_rfl⟩
theorem tok226 : Wk.TOk Try.prog 226 ⟨.func, 1, 8, [Go.Value.nilFunc]⟩ := ⟨⟨Try.t226, _, by kernel_rfl, rfl, rfl, rfl, by kernel_rfl⟩, ⟨_, _, _, Try.underlying226⟩, by kernel_rfl⟩
theorem tok227 : Wk.TOk Try.prog 227 ⟨.func, 1, 8, [Go.Value.nilFunc]⟩ := ⟨⟨Try.t227, _, by kernel_rfl, rfl, rfl, rfl, by kernel_rfl⟩, ⟨_, _, _, Try.underlying227⟩, by kernel_rfl⟩
theorem tok228 : Wk.TOk Try.prog 228 ⟨.strct [(0, 1, 215)], 1, 8, [(Go.Value.pointer none)]⟩ := ⟨⟨Try.t228, _, by kernel_rfl, rfl, rfl, rfl, by kernel_rfl⟩, ⟨_, Try.underlying228, by kernel_rfl, Try.stoodInHeld228, by kernel_rfl⟩, by kernel_rfl⟩
theorem tok229 : Wk.TOk Try.prog 229 ⟨.strct [(0, 1, 215)], 1, 8, [(Go.Value.pointer none)]⟩ := ⟨⟨Try.t229, _, by kernel_rfl, rfl, rfl, rfl, by kernel_rfl⟩, ⟨_, Try.underlying229, by kernel_rfl, Try.stoodInHeld229, by kernel_rfl⟩, by kernel_rfl⟩
theorem tok230 : Wk.TOk Try.prog 230 ⟨.func, 1, 8, [Go.Value.nilFunc]⟩ := ⟨⟨Try.t230, _, by kernel_rfl, rfl, rfl, rfl, by kernel_rfl⟩, ⟨_, _, _, Try.underlying230⟩, by kernel_rfl⟩
theorem tok231 : Wk.TOk Try.prog 231 ⟨.strct [(0, 1, 229), (1, 1, 229)], 2, 16, [(Go.Value.pointer none), (Go.Value.pointer none)]⟩ := ⟨⟨Try.t231, _, by kernel_rfl, rfl, rfl, rfl, by kernel_rfl⟩, ⟨_, Try.underlying231, by kernel_rfl, Try.stoodInHeld231, by kernel_rfl⟩, by kernel_rfl⟩
theorem tok232 : Wk.TOk Try.prog 232 ⟨.strct [(0, 1, 229), (1, 1, 229)], 2, 16, [(Go.Value.pointer none), (Go.Value.pointer none)]⟩ := ⟨⟨Try.t232, _, by kernel_rfl, rfl, rfl, rfl, by kernel_rfl⟩, ⟨_, Try.underlying232, by kernel_rfl, Try.stoodInHeld232, by kernel_rfl⟩, by kernel_rfl⟩
theorem tok233 : Wk.TOk Try.prog 233 ⟨.func, 1, 8, [Go.Value.nilFunc]⟩ := ⟨⟨Try.t233, _, by kernel_rfl, rfl, rfl, rfl, by kernel_rfl⟩, ⟨_, _, _, Try.underlying233⟩, by kernel_rfl⟩
theorem tok234 : Wk.TOk Try.prog 234 ⟨.func, 1, 8, [Go.Value.nilFunc]⟩ := ⟨⟨Try.t234, _, by kernel_rfl, rfl, rfl, rfl, by kernel_rfl⟩, ⟨_, _, _, Try.underlying234⟩, by kernel_rfl⟩
theorem tok235 : Wk.TOk Try.prog 235 ⟨.arr 16 182, 16, 64, [(Go.Value.int Go.IntKind.u32 0), (Go.Value.int Go.IntKind.u32 0), (Go.Value.int Go.IntKind.u32 0), (Go.Value.int Go.IntKind.u32 0), (Go.Value.int Go.IntKind.u32 0), (Go.Value.int Go.IntKind.u32 0), (Go.Value.int Go.IntKind.u32 0), (Go.Value.int Go.IntKind.u32 0), (Go.Value.int Go.IntKind.u32 0), (Go.Value.int Go.IntKind.u32 0), (Go.Value.int Go.IntKind.u32 0), (Go.Value.int Go.IntKind.u32 0), (Go.Value.int Go.IntKind.u32 0), (Go.Value.int Go.IntKind.u32 0), (Go.Value.int Go.IntKind.u32 0), (Go.Value.int Go.IntKind.u32 0)]⟩ := ⟨⟨Try.t235, _, by kernel_rfl, rfl, rfl, rfl, by kernel_rfl⟩, Try.underlying235, by kernel_rfl⟩
theorem tok236 : Wk.TOk Try.prog 236 ⟨.arr 64 182, 64, 256, [(Go.Value.int Go.IntKind.u32 0), (Go.Value.int Go.IntKind.u32 0), (Go.Value.int Go.IntKind.u32 0), (Go.Value.int Go.IntKind.u32 0), (Go.Value.int Go.IntKind.u32 0), (Go.Value.int Go.IntKind.u32 0), (Go.Value.int Go.IntKind.u32 0), (Go.Value.int Go.IntKind.u32 0), (Go.Value.int Go.IntKind.u32 0), (Go.Value.int Go.IntKind.u32 0), (Go.Value.int Go.IntKind.u32 0), (Go.Value.int Go.IntKind.u32 0), (Go.Value.int Go.IntKind.u32 0), (Go.Value.int Go.IntKind.u32 0), (Go.Value.int Go.IntKind.u32 0), (Go.Value.int Go.IntKind.u32 0), (Go.Value.int Go.IntKind.u32 0), (Go.Value.int Go.IntKind.u32 0), (Go.Value.int Go.IntKind.u32 0), (Go.Value.int Go.IntKind.u32 0), (Go.Value.int Go.IntKind.u32 0), (Go.Value.int Go.IntKind.u32 0), (Go.Value.int Go.IntKind.u32 0), (Go.Value.int Go.IntKind.u32 0), (Go.Value.int Go.IntKind.u32 0), (Go.Value.int Go.IntKind.u32 0), (Go.Value.int Go.IntKind.u32 0), (Go.Value.int Go.IntKind.u32 0), (Go.Value.int Go.IntKind.u32 0), (Go.Value.int Go.IntKind.u32 0), (Go.Value.int Go.IntKind.u32 0), (Go.Value.int Go.IntKind.u32 0), (Go.Value.int Go.IntKind.u32 0), (Go.Value.int Go.IntKind.u32 0), (Go.Value.int Go.IntKind.u32 0), (Go.Value.int Go.IntKind.u32 0), (Go.Value.int Go.IntKind.u32 0), (Go.Value.int Go.IntKind.u32 0), (Go.Value.int Go.IntKind.u32 0), (Go.Value.int Go.IntKind.u32 0), (Go.Value.int Go.IntKind.u32 0), (Go.Value.int Go.IntKind.u32 0), (Go.Value.int Go.IntKind.u32 0), (Go.Value.int Go.IntKind.u32 0), (Go.Value.int Go.IntKind.u32 0), (Go.Value.int Go.IntKind.u32 0), (Go.Value.int Go.IntKind.u32 0), (Go.Value.int Go.IntKind.u32 0), (Go.Value.int Go.IntKind.u32 0), (Go.Value.int Go.IntKind.u32 0), (Go.Value.int Go.IntKind.u32 0), (Go.Value.int Go.IntKind.u32 0), (Go.Value.int Go.IntKind.u32 0), (Go.Value.int Go.IntKind.u32 0), (Go.Value.int Go.IntKind.u32 0), (Go.Value.int Go.IntKind.u32 0), (Go.Value.int Go.IntKind.u32 0), (Go.Value.int Go.IntKind.u32 0), (Go.Value.int Go.IntKind.u32 0), (Go.Value.int Go.IntKind.u32 0), (Go.Value.int Go.IntKind.u32 0), (Go.Value.int Go.IntKind.u32 0), (Go.Value.int Go.IntKind.u32 0), (Go.Value.int Go.IntKind.u32 0)]⟩ := ⟨⟨Try.t236, _, by kernel_rfl, rfl, rfl, rfl, by kernel_rfl⟩, Try.underlying236, by kernel_rfl⟩
theorem tok237 : Wk.TOk Try.prog 237 ⟨.func, 1, 8, [Go.Value.nilFunc]⟩ := ⟨⟨Try.t237, _, by kernel_rfl, rfl, rfl, rfl, by kernel_rfl⟩, ⟨_, _, _, Try.underlying237⟩, by kernel_rfl⟩
theorem tok238 : Wk.TOk Try.prog 238 ⟨.func, 1, 8, [Go.Value.nilFunc]⟩ := ⟨⟨Try.t238, _, by kernel_rfl, rfl, rfl, rfl, by kernel_rfl⟩, ⟨_, _, _, Try.underlying238⟩, by kernel_rfl⟩
theorem tok239 : Wk.TOk Try.prog 239 ⟨.arr 4 5, 4, 4, [(Go.Value.int Go.IntKind.u8 0), (Go.Value.int Go.IntKind.u8 0), (Go.Value.int Go.IntKind.u8 0), (Go.Value.int Go.IntKind.u8 0)]⟩ := ⟨⟨Try.t239, _, by kernel_rfl, rfl, rfl, rfl, by kernel_rfl⟩, Try.underlying239, by kernel_rfl⟩
theorem okT : Wk.Ok Try.prog TT := Wk.ok_of TTl ⟨tok1, tok2, tok3, tok4, tok5, tok6, tok7, tok8, tok9, tok10, tok11, tok12, tok15, tok16, tok17, tok20, tok21, tok22, tok23, tok24, tok25, tok26, tok27, tok28, tok29, tok31, tok32, tok34, tok35, tok37, tok38, tok40, tok41, tok42, tok44, tok45, tok46, tok47, tok48, tok49, tok50, tok51, tok52, tok53, tok54, tok55, tok56, tok57, tok58, tok59, tok60, tok61, tok62, tok63, tok64, tok65, tok66, tok67, tok68, tok69, tok70, tok71, tok73, tok74, tok75, tok76, tok77, tok78, tok79, tok80, tok81, tok82, tok84, tok85, tok86, tok87, tok88, tok89, tok90, tok91, tok92, tok93, tok96, tok97, tok98, tok100, tok101, tok102, tok103, tok104, tok105, tok106, tok107, tok108, tok109, tok110, tok111, tok112, tok113, tok114, tok115, tok116, tok117, tok119, tok120, tok121, tok122, tok125, tok126, tok127, tok129, tok130, tok131, tok132, tok133, tok134, tok135, tok136, tok137, tok138, tok139, tok140, tok141, tok142, tok143, tok144, tok145, tok146, tok148, tok149, tok150, tok151, tok152, tok153, tok155, tok156, tok157, tok159, tok160, tok161, tok164, tok165, tok166, tok167, tok168, tok169, tok170, tok171, tok172, tok173, tok174, tok176, tok177, tok178, tok180, tok181, tok182, tok183, tok184, tok186, tok187, tok188, tok189, tok191, tok192, tok193, tok194, tok195, tok196, tok197, tok198, tok199, tok200, tok201, tok204, tok207, tok208, tok209, tok210, tok211, tok214, tok215, tok216, tok217, tok218, tok219, tok220, tok221, tok222, tok223, tok226, tok227, tok228, tok229, tok230, tok231, tok232, tok233, tok234, tok235, tok236, tok237, tok238, tok239, trivial⟩ (by kernel_rfl) (by kernel_rfl)
theorem fok12 : Wk.FOk Try.prog 12 := ⟨Try.f12, Try.func12, by kernel_rfl, by kernel_rfl⟩
theorem fok17 : Wk.FOk Try.prog 17 := ⟨Try.f17, Try.func17, by kernel_rfl, by kernel_rfl⟩
theorem fok31 : Wk.FOk Try.prog 31 := ⟨Try.f31, Try.func31, by kernel_rfl, by kernel_rfl⟩
theorem fok35 : Wk.FOk Try.prog 35 := ⟨Try.f35, Try.func35, by kernel_rfl, by kernel_rfl⟩
theorem fok36 : Wk.FOk Try.prog 36 := ⟨Try.f36, Try.func36, by kernel_rfl, by kernel_rfl⟩
theorem fok37 : Wk.FOk Try.prog 37 := ⟨Try.f37, Try.func37, by kernel_rfl, by kernel_rfl⟩
theorem fok38 : Wk.FOk Try.prog 38 := ⟨Try.f38, Try.func38, by kernel_rfl, by kernel_rfl⟩
theorem fok39 : Wk.FOk Try.prog 39 := ⟨Try.f39, Try.func39, by kernel_rfl, by kernel_rfl⟩
theorem fok40 : Wk.FOk Try.prog 40 := ⟨Try.f40, Try.func40, by kernel_rfl, by kernel_rfl⟩
theorem fok41 : Wk.FOk Try.prog 41 := ⟨Try.f41, Try.func41, by kernel_rfl, by kernel_rfl⟩
theorem fok42 : Wk.FOk Try.prog 42 := ⟨Try.f42, Try.func42, by kernel_rfl, by kernel_rfl⟩
theorem fok43 : Wk.FOk Try.prog 43 := ⟨Try.f43, Try.func43, by kernel_rfl, by kernel_rfl⟩
theorem fok44 : Wk.FOk Try.prog 44 := ⟨Try.f44, Try.func44, by kernel_rfl, by kernel_rfl⟩
theorem fok46 : Wk.FOk Try.prog 46 := ⟨Try.f46, Try.func46, by kernel_rfl, by kernel_rfl⟩
theorem fok49 : Wk.FOk Try.prog 49 := ⟨Try.f49, Try.func49, by kernel_rfl, by kernel_rfl⟩
theorem fok50 : Wk.FOk Try.prog 50 := ⟨Try.f50, Try.func50, by kernel_rfl, by kernel_rfl⟩
theorem fok51 : Wk.FOk Try.prog 51 := ⟨Try.f51, Try.func51, by kernel_rfl, by kernel_rfl⟩
theorem fok53 : Wk.FOk Try.prog 53 := ⟨Try.f53, Try.func53, by kernel_rfl, by kernel_rfl⟩
theorem fok63 : Wk.FOk Try.prog 63 := ⟨Try.f63, Try.func63, by kernel_rfl, by kernel_rfl⟩
theorem fok64 : Wk.FOk Try.prog 64 := ⟨Try.f64, Try.func64, by kernel_rfl, by kernel_rfl⟩
theorem fok65 : Wk.FOk Try.prog 65 := ⟨Try.f65, Try.func65, by kernel_rfl, by kernel_rfl⟩
theorem fok67 : Wk.FOk Try.prog 67 := ⟨Try.f67, Try.func67, by kernel_rfl, by kernel_rfl⟩
theorem fok68 : Wk.FOk Try.prog 68 := ⟨Try.f68, Try.func68, by kernel_rfl, by kernel_rfl⟩
theorem fok69 : Wk.FOk Try.prog 69 := ⟨Try.f69, Try.func69, by kernel_rfl, by kernel_rfl⟩
theorem fok70 : Wk.FOk Try.prog 70 := ⟨Try.f70, Try.func70, by kernel_rfl, by kernel_rfl⟩
theorem fok71 : Wk.FOk Try.prog 71 := ⟨Try.f71, Try.func71, by kernel_rfl, by kernel_rfl⟩
theorem fok72 : Wk.FOk Try.prog 72 := ⟨Try.f72, Try.func72, by kernel_rfl, by kernel_rfl⟩
theorem fok73 : Wk.FOk Try.prog 73 := ⟨Try.f73, Try.func73, by kernel_rfl, by kernel_rfl⟩
theorem fok74 : Wk.FOk Try.prog 74 := ⟨Try.f74, Try.func74, by kernel_rfl, by kernel_rfl⟩
theorem fok75 : Wk.FOk Try.prog 75 := ⟨Try.f75, Try.func75, by kernel_rfl, by kernel_rfl⟩
theorem fok76 : Wk.FOk Try.prog 76 := ⟨Try.f76, Try.func76, by kernel_rfl, by kernel_rfl⟩
theorem fok77 : Wk.FOk Try.prog 77 := ⟨Try.f77, Try.func77, by kernel_rfl, by kernel_rfl⟩
theorem fok78 : Wk.FOk Try.prog 78 := ⟨Try.f78, Try.func78, by kernel_rfl, by kernel_rfl⟩
theorem fok82 : Wk.FOk Try.prog 82 := ⟨Try.f82, Try.func82, by kernel_rfl, by kernel_rfl⟩
theorem fok83 : Wk.FOk Try.prog 83 := ⟨Try.f83, Try.func83, by kernel_rfl, by kernel_rfl⟩
theorem fok86 : Wk.FOk Try.prog 86 := ⟨Try.f86, Try.func86, by kernel_rfl, by kernel_rfl⟩
theorem fok88 : Wk.FOk Try.prog 88 := ⟨Try.f88, Try.func88, by kernel_rfl, by kernel_rfl⟩
theorem fok89 : Wk.FOk Try.prog 89 := ⟨Try.f89, Try.func89, by kernel_rfl, by kernel_rfl⟩
theorem fok90 : Wk.FOk Try.prog 90 := ⟨Try.f90, Try.func90, by kernel_rfl, by kernel_rfl⟩
theorem fok91 : Wk.FOk Try.prog 91 := ⟨Try.f91, Try.func91, by kernel_rfl, by kernel_rfl⟩
theorem fok92 : Wk.FOk Try.prog 92 := ⟨Try.f92, Try.func92, by kernel_rfl, by kernel_rfl⟩
theorem fok93 : Wk.FOk Try.prog 93 := ⟨Try.f93, Try.func93, by kernel_rfl, by kernel_rfl⟩
theorem fok94 : Wk.FOk Try.prog 94 := ⟨Try.f94, Try.func94, by kernel_rfl, by kernel_rfl⟩
theorem fok95 : Wk.FOk Try.prog 95 := ⟨Try.f95, Try.func95, by kernel_rfl, by kernel_rfl⟩
theorem fok96 : Wk.FOk Try.prog 96 := ⟨Try.f96, Try.func96, by kernel_rfl, by kernel_rfl⟩
theorem fok97 : Wk.FOk Try.prog 97 := ⟨Try.f97, Try.func97, by kernel_rfl, by kernel_rfl⟩
theorem fok98 : Wk.FOk Try.prog 98 := ⟨Try.f98, Try.func98, by kernel_rfl, by kernel_rfl⟩
theorem fok100 : Wk.FOk Try.prog 100 := ⟨Try.f100, Try.func100, by kernel_rfl, by kernel_rfl⟩
theorem fok101 : Wk.FOk Try.prog 101 := ⟨Try.f101, Try.func101, by kernel_rfl, by kernel_rfl⟩
theorem fok102 : Wk.FOk Try.prog 102 := ⟨Try.f102, Try.func102, by kernel_rfl, by kernel_rfl⟩
theorem fok103 : Wk.FOk Try.prog 103 := ⟨Try.f103, Try.func103, by kernel_rfl, by kernel_rfl⟩
theorem fok104 : Wk.FOk Try.prog 104 := ⟨Try.f104, Try.func104, by kernel_rfl, by kernel_rfl⟩
theorem fok106 : Wk.FOk Try.prog 106 := ⟨Try.f106, Try.func106, by kernel_rfl, by kernel_rfl⟩
theorem fok107 : Wk.FOk Try.prog 107 := ⟨Try.f107, Try.func107, by kernel_rfl, by kernel_rfl⟩
theorem fok108 : Wk.FOk Try.prog 108 := ⟨Try.f108, Try.func108, by kernel_rfl, by kernel_rfl⟩
theorem fok111 : Wk.FOk Try.prog 111 := ⟨Try.f111, Try.func111, by kernel_rfl, by kernel_rfl⟩
theorem fok112 : Wk.FOk Try.prog 112 := ⟨Try.f112, Try.func112, by kernel_rfl, by kernel_rfl⟩
theorem fok113 : Wk.FOk Try.prog 113 := ⟨Try.f113, Try.func113, by kernel_rfl, by kernel_rfl⟩
theorem fok114 : Wk.FOk Try.prog 114 := ⟨Try.f114, Try.func114, by kernel_rfl, by kernel_rfl⟩
theorem fok116 : Wk.FOk Try.prog 116 := ⟨Try.f116, Try.func116, by kernel_rfl, by kernel_rfl⟩
theorem fok119 : Wk.FOk Try.prog 119 := ⟨Try.f119, Try.func119, by kernel_rfl, by kernel_rfl⟩
theorem fok120 : Wk.FOk Try.prog 120 := ⟨Try.f120, Try.func120, by kernel_rfl, by kernel_rfl⟩
theorem fok121 : Wk.FOk Try.prog 121 := ⟨Try.f121, Try.func121, by kernel_rfl, by kernel_rfl⟩
theorem fok124 : Wk.FOk Try.prog 124 := ⟨Try.f124, Try.func124, by kernel_rfl, by kernel_rfl⟩
theorem fok134 : Wk.FOk Try.prog 134 := ⟨Try.f134, Try.func134, by kernel_rfl, by kernel_rfl⟩
theorem fok146 : Wk.FOk Try.prog 146 := ⟨Try.f146, Try.func146, by kernel_rfl, by kernel_rfl⟩
theorem fok147 : Wk.FOk Try.prog 147 := ⟨Try.f147, Try.func147, by kernel_rfl, by kernel_rfl⟩
theorem fok148 : Wk.FOk Try.prog 148 := ⟨Try.f148, Try.func148, by kernel_rfl, by kernel_rfl⟩
theorem fok160 : Wk.FOk Try.prog 160 := ⟨Try.f160, Try.func160, by kernel_rfl, by kernel_rfl⟩
theorem fok161 : Wk.FOk Try.prog 161 := ⟨Try.f161, Try.func161, by kernel_rfl, by kernel_rfl⟩
theorem fok162 : Wk.FOk Try.prog 162 := ⟨Try.f162, Try.func162, by kernel_rfl, by kernel_rfl⟩
end Go.Proofs.Ytgopgonkchlkfaa
