/-
  The table of the types of this seat's program, for the walking layer: made by a program (mkseat.py).
-/
import Derived.Test.YtcikecociiebkaaGreatDoorRows
import Derived.Test.YtcikecociiebkaaGreatDoorQbGs
import Derived.KernelRfl
namespace Go.Proofs.YtcikecociiebkaaGreatDoor
open Go
def TTl : List (Option Wk.TI) := [
  none,
  some ⟨.func, 1, 8, [Go.Value.nilFunc]⟩,
  some ⟨.int Go.IntKind.i64, 1, 8, [(Go.Value.int Go.IntKind.i64 0)]⟩,
  some ⟨.int Go.IntKind.i64, 1, 8, [(Go.Value.int Go.IntKind.i64 0)]⟩,
  some ⟨.bool, 1, 1, [(Go.Value.bool false)]⟩,
  some ⟨.int Go.IntKind.u8, 1, 1, [(Go.Value.int Go.IntKind.u8 0)]⟩,
  some ⟨.int Go.IntKind.u8, 1, 1, [(Go.Value.int Go.IntKind.u8 0)]⟩,
  some ⟨.strct [(0, 1, 2), (1, 1, 3), (2, 1, 4), (3, 1, 6)], 4, 24, [(Go.Value.int Go.IntKind.i64 0), (Go.Value.int Go.IntKind.i64 0), (Go.Value.bool false), (Go.Value.int Go.IntKind.u8 0)]⟩,
  some ⟨.strct [(0, 1, 2), (1, 1, 3), (2, 1, 4), (3, 1, 6)], 4, 24, [(Go.Value.int Go.IntKind.i64 0), (Go.Value.int Go.IntKind.i64 0), (Go.Value.bool false), (Go.Value.int Go.IntKind.u8 0)]⟩,
  some ⟨.string, 1, 16, [(Go.Value.string { data := #[] })]⟩,
  some ⟨.string, 1, 16, [(Go.Value.string { data := #[] })]⟩,
  some ⟨.string, 1, 16, [(Go.Value.string { data := #[] })]⟩,
  some ⟨.int Go.IntKind.u64, 1, 8, [(Go.Value.int Go.IntKind.u64 0)]⟩,
  none,
  none,
  some ⟨.ptr 271, 1, 8, [(Go.Value.pointer none)]⟩,
  some ⟨.ptr 274, 1, 8, [(Go.Value.pointer none)]⟩,
  some ⟨.ptr 282, 1, 8, [(Go.Value.pointer none)]⟩,
  none,
  none,
  some ⟨.iface, 1, 16, [Go.Value.nilIface]⟩,
  some ⟨.int Go.IntKind.i32, 1, 4, [(Go.Value.int Go.IntKind.i32 0)]⟩,
  some ⟨.slice 9, 1, 24, [(Go.Value.slice none 0 0)]⟩,
  some ⟨.func, 1, 8, [Go.Value.nilFunc]⟩,
  some ⟨.func, 1, 8, [Go.Value.nilFunc]⟩,
  some ⟨.ptr 81, 1, 8, [(Go.Value.pointer none)]⟩,
  some ⟨.int Go.IntKind.i64, 1, 8, [(Go.Value.int Go.IntKind.i64 0)]⟩,
  none,
  some ⟨.func, 1, 8, [Go.Value.nilFunc]⟩,
  none,
  some ⟨.func, 1, 8, [Go.Value.nilFunc]⟩,
  some ⟨.ptr 91, 1, 8, [(Go.Value.pointer none)]⟩,
  none,
  some ⟨.func, 1, 8, [Go.Value.nilFunc]⟩,
  some ⟨.ptr 94, 1, 8, [(Go.Value.pointer none)]⟩,
  some ⟨.func, 1, 8, [Go.Value.nilFunc]⟩,
  some ⟨.func, 1, 8, [Go.Value.nilFunc]⟩,
  some ⟨.strct [(0, 1, 3), (1, 1, 3), (2, 1, 3)], 3, 24, [(Go.Value.int Go.IntKind.i64 0), (Go.Value.int Go.IntKind.i64 0), (Go.Value.int Go.IntKind.i64 0)]⟩,
  some ⟨.strct [(0, 1, 3), (1, 1, 3), (2, 1, 3)], 3, 24, [(Go.Value.int Go.IntKind.i64 0), (Go.Value.int Go.IntKind.i64 0), (Go.Value.int Go.IntKind.i64 0)]⟩,
  some ⟨.slice 48, 1, 24, [(Go.Value.slice none 0 0)]⟩,
  some ⟨.strct [(0, 3, 38), (3, 1, 3), (4, 1, 39), (5, 1, 22)], 6, 80, [(Go.Value.int Go.IntKind.i64 0), (Go.Value.int Go.IntKind.i64 0), (Go.Value.int Go.IntKind.i64 0), (Go.Value.int Go.IntKind.i64 0), (Go.Value.slice none 0 0), (Go.Value.slice none 0 0)]⟩,
  some ⟨.strct [(0, 3, 38), (3, 1, 3), (4, 1, 39), (5, 1, 22)], 6, 80, [(Go.Value.int Go.IntKind.i64 0), (Go.Value.int Go.IntKind.i64 0), (Go.Value.int Go.IntKind.i64 0), (Go.Value.int Go.IntKind.i64 0), (Go.Value.slice none 0 0), (Go.Value.slice none 0 0)]⟩,
  none,
  some ⟨.func, 1, 8, [Go.Value.nilFunc]⟩,
  some ⟨.func, 1, 8, [Go.Value.nilFunc]⟩,
  none,
  some ⟨.func, 1, 8, [Go.Value.nilFunc]⟩,
  some ⟨.strct [(0, 1, 3), (1, 1, 9)], 2, 24, [(Go.Value.int Go.IntKind.i64 0), (Go.Value.string { data := #[] })]⟩,
  some ⟨.strct [(0, 1, 3), (1, 1, 9)], 2, 24, [(Go.Value.int Go.IntKind.i64 0), (Go.Value.string { data := #[] })]⟩,
  some ⟨.func, 1, 8, [Go.Value.nilFunc]⟩,
  some ⟨.func, 1, 8, [Go.Value.nilFunc]⟩,
  some ⟨.strct [(0, 3, 38), (3, 1, 3), (4, 1, 39), (5, 1, 3)], 6, 64, [(Go.Value.int Go.IntKind.i64 0), (Go.Value.int Go.IntKind.i64 0), (Go.Value.int Go.IntKind.i64 0), (Go.Value.int Go.IntKind.i64 0), (Go.Value.slice none 0 0), (Go.Value.int Go.IntKind.i64 0)]⟩,
  some ⟨.strct [(0, 3, 38), (3, 1, 3), (4, 1, 39), (5, 1, 3)], 6, 64, [(Go.Value.int Go.IntKind.i64 0), (Go.Value.int Go.IntKind.i64 0), (Go.Value.int Go.IntKind.i64 0), (Go.Value.int Go.IntKind.i64 0), (Go.Value.slice none 0 0), (Go.Value.int Go.IntKind.i64 0)]⟩,
  some ⟨.func, 1, 8, [Go.Value.nilFunc]⟩,
  some ⟨.func, 1, 8, [Go.Value.nilFunc]⟩,
  some ⟨.ptr 112, 1, 8, [(Go.Value.pointer none)]⟩,
  none,
  some ⟨.func, 1, 8, [Go.Value.nilFunc]⟩,
  some ⟨.strct [(0, 1, 5), (1, 3, 38), (4, 1, 3), (5, 1, 39), (6, 1, 9), (7, 1, 4), (8, 1, 9)], 9, 104, [(Go.Value.int Go.IntKind.u8 0), (Go.Value.int Go.IntKind.i64 0), (Go.Value.int Go.IntKind.i64 0), (Go.Value.int Go.IntKind.i64 0), (Go.Value.int Go.IntKind.i64 0), (Go.Value.slice none 0 0), (Go.Value.string { data := #[] }), (Go.Value.bool false), (Go.Value.string { data := #[] })]⟩,
  some ⟨.strct [(0, 1, 5), (1, 3, 38), (4, 1, 3), (5, 1, 39), (6, 1, 9), (7, 1, 4), (8, 1, 9)], 9, 104, [(Go.Value.int Go.IntKind.u8 0), (Go.Value.int Go.IntKind.i64 0), (Go.Value.int Go.IntKind.i64 0), (Go.Value.int Go.IntKind.i64 0), (Go.Value.int Go.IntKind.i64 0), (Go.Value.slice none 0 0), (Go.Value.string { data := #[] }), (Go.Value.bool false), (Go.Value.string { data := #[] })]⟩,
  some ⟨.strct [(0, 1, 3), (1, 9, 59), (10, 1, 4)], 11, 120, [(Go.Value.int Go.IntKind.i64 0), (Go.Value.int Go.IntKind.u8 0), (Go.Value.int Go.IntKind.i64 0), (Go.Value.int Go.IntKind.i64 0), (Go.Value.int Go.IntKind.i64 0), (Go.Value.int Go.IntKind.i64 0), (Go.Value.slice none 0 0), (Go.Value.string { data := #[] }), (Go.Value.bool false), (Go.Value.string { data := #[] }), (Go.Value.bool false)]⟩,
  some ⟨.strct [(0, 1, 3), (1, 9, 59), (10, 1, 4)], 11, 120, [(Go.Value.int Go.IntKind.i64 0), (Go.Value.int Go.IntKind.u8 0), (Go.Value.int Go.IntKind.i64 0), (Go.Value.int Go.IntKind.i64 0), (Go.Value.int Go.IntKind.i64 0), (Go.Value.int Go.IntKind.i64 0), (Go.Value.slice none 0 0), (Go.Value.string { data := #[] }), (Go.Value.bool false), (Go.Value.string { data := #[] }), (Go.Value.bool false)]⟩,
  none,
  some ⟨.func, 1, 8, [Go.Value.nilFunc]⟩,
  some ⟨.func, 1, 8, [Go.Value.nilFunc]⟩,
  some ⟨.strct [(0, 1, 3), (1, 1, 3), (2, 1, 3), (3, 1, 3), (4, 1, 3), (5, 1, 9), (6, 1, 9)], 7, 72, [(Go.Value.int Go.IntKind.i64 0), (Go.Value.int Go.IntKind.i64 0), (Go.Value.int Go.IntKind.i64 0), (Go.Value.int Go.IntKind.i64 0), (Go.Value.int Go.IntKind.i64 0), (Go.Value.string { data := #[] }), (Go.Value.string { data := #[] })]⟩,
  some ⟨.strct [(0, 1, 3), (1, 1, 3), (2, 1, 3), (3, 1, 3), (4, 1, 3), (5, 1, 9), (6, 1, 9)], 7, 72, [(Go.Value.int Go.IntKind.i64 0), (Go.Value.int Go.IntKind.i64 0), (Go.Value.int Go.IntKind.i64 0), (Go.Value.int Go.IntKind.i64 0), (Go.Value.int Go.IntKind.i64 0), (Go.Value.string { data := #[] }), (Go.Value.string { data := #[] })]⟩,
  none,
  some ⟨.func, 1, 8, [Go.Value.nilFunc]⟩,
  some ⟨.func, 1, 8, [Go.Value.nilFunc]⟩,
  some ⟨.func, 1, 8, [Go.Value.nilFunc]⟩,
  some ⟨.func, 1, 8, [Go.Value.nilFunc]⟩,
  some ⟨.func, 1, 8, [Go.Value.nilFunc]⟩,
  some ⟨.func, 1, 8, [Go.Value.nilFunc]⟩,
  none,
  some ⟨.func, 1, 8, [Go.Value.nilFunc]⟩,
  some ⟨.strct [], 0, 0, []⟩,
  some ⟨.strct [], 0, 0, []⟩,
  some ⟨.iface, 1, 16, [Go.Value.nilIface]⟩,
  some ⟨.iface, 1, 16, [Go.Value.nilIface]⟩,
  some ⟨.strct [(0, 1, 79)], 1, 16, [Go.Value.nilIface]⟩,
  some ⟨.strct [(0, 1, 79)], 1, 16, [Go.Value.nilIface]⟩,
  some ⟨.strct [(0, 1, 9)], 1, 16, [(Go.Value.string { data := #[] })]⟩,
  some ⟨.strct [(0, 1, 9)], 1, 16, [(Go.Value.string { data := #[] })]⟩,
  some ⟨.func, 1, 8, [Go.Value.nilFunc]⟩,
  some ⟨.func, 1, 8, [Go.Value.nilFunc]⟩,
  some ⟨.func, 1, 8, [Go.Value.nilFunc]⟩,
  some ⟨.strct [(0, 1, 25)], 1, 8, [(Go.Value.pointer none)]⟩,
  some ⟨.strct [(0, 1, 25)], 1, 8, [(Go.Value.pointer none)]⟩,
  some ⟨.func, 1, 8, [Go.Value.nilFunc]⟩,
  some ⟨.strct [(0, 1, 88), (1, 1, 3), (2, 1, 22)], 3, 40, [(Go.Value.pointer none), (Go.Value.int Go.IntKind.i64 0), (Go.Value.slice none 0 0)]⟩,
  some ⟨.strct [(0, 1, 88), (1, 1, 3), (2, 1, 22)], 3, 40, [(Go.Value.pointer none), (Go.Value.int Go.IntKind.i64 0), (Go.Value.slice none 0 0)]⟩,
  some ⟨.map 9 161, 1, 8, [(Go.Value.map none)]⟩,
  some ⟨.strct [(0, 1, 92)], 1, 8, [(Go.Value.map none)]⟩,
  some ⟨.strct [(0, 1, 92)], 1, 8, [(Go.Value.map none)]⟩,
  some ⟨.func, 1, 8, [Go.Value.nilFunc]⟩,
  none,
  some ⟨.func, 1, 8, [Go.Value.nilFunc]⟩,
  some ⟨.slice 52, 1, 24, [(Go.Value.slice none 0 0)]⟩,
  some ⟨.func, 1, 8, [Go.Value.nilFunc]⟩,
  some ⟨.func, 1, 8, [Go.Value.nilFunc]⟩,
  some ⟨.func, 1, 8, [Go.Value.nilFunc]⟩,
  some ⟨.func, 1, 8, [Go.Value.nilFunc]⟩,
  some ⟨.func, 1, 8, [Go.Value.nilFunc]⟩,
  some ⟨.func, 1, 8, [Go.Value.nilFunc]⟩,
  some ⟨.func, 1, 8, [Go.Value.nilFunc]⟩,
  some ⟨.func, 1, 8, [Go.Value.nilFunc]⟩,
  some ⟨.ptr 179, 1, 8, [(Go.Value.pointer none)]⟩,
  none,
  some ⟨.func, 1, 8, [Go.Value.nilFunc]⟩,
  some ⟨.map 3 114, 1, 8, [(Go.Value.map none)]⟩,
  some ⟨.strct [(0, 1, 25), (1, 1, 3), (2, 1, 3), (3, 1, 110)], 4, 32, [(Go.Value.pointer none), (Go.Value.int Go.IntKind.i64 0), (Go.Value.int Go.IntKind.i64 0), (Go.Value.map none)]⟩,
  some ⟨.strct [(0, 1, 25), (1, 1, 3), (2, 1, 3), (3, 1, 110)], 4, 32, [(Go.Value.pointer none), (Go.Value.int Go.IntKind.i64 0), (Go.Value.int Go.IntKind.i64 0), (Go.Value.map none)]⟩,
  some ⟨.strct [(0, 1, 107)], 1, 8, [(Go.Value.pointer none)]⟩,
  some ⟨.strct [(0, 1, 107)], 1, 8, [(Go.Value.pointer none)]⟩,
  none,
  some ⟨.func, 1, 8, [Go.Value.nilFunc]⟩,
  none,
  some ⟨.func, 1, 8, [Go.Value.nilFunc]⟩,
  some ⟨.func, 1, 8, [Go.Value.nilFunc]⟩,
  some ⟨.strct [(0, 1, 119)], 1, 8, [Go.Value.nilFunc]⟩,
  some ⟨.strct [(0, 1, 119)], 1, 8, [Go.Value.nilFunc]⟩,
  some ⟨.func, 1, 8, [Go.Value.nilFunc]⟩,
  some ⟨.strct [], 0, 0, []⟩,
  none,
  none,
  some ⟨.func, 1, 8, [Go.Value.nilFunc]⟩,
  some ⟨.func, 1, 8, [Go.Value.nilFunc]⟩,
  some ⟨.func, 1, 8, [Go.Value.nilFunc]⟩,
  some ⟨.func, 1, 8, [Go.Value.nilFunc]⟩,
  some ⟨.func, 1, 8, [Go.Value.nilFunc]⟩,
  some ⟨.ptr 66, 1, 8, [(Go.Value.pointer none)]⟩,
  some ⟨.ptr 3, 1, 8, [(Go.Value.pointer none)]⟩,
  some ⟨.strct [(0, 1, 132), (1, 1, 3), (2, 1, 3)], 3, 24, [(Go.Value.pointer none), (Go.Value.int Go.IntKind.i64 0), (Go.Value.int Go.IntKind.i64 0)]⟩,
  some ⟨.strct [(0, 1, 132), (1, 1, 3), (2, 1, 3)], 3, 24, [(Go.Value.pointer none), (Go.Value.int Go.IntKind.i64 0), (Go.Value.int Go.IntKind.i64 0)]⟩,
  none,
  some ⟨.func, 1, 8, [Go.Value.nilFunc]⟩,
  some ⟨.func, 1, 8, [Go.Value.nilFunc]⟩,
  some ⟨.func, 1, 8, [Go.Value.nilFunc]⟩,
  some ⟨.func, 1, 8, [Go.Value.nilFunc]⟩,
  some ⟨.func, 1, 8, [Go.Value.nilFunc]⟩,
  some ⟨.func, 1, 8, [Go.Value.nilFunc]⟩,
  some ⟨.strct [(0, 1, 3), (1, 1, 3), (2, 1, 3)], 3, 24, [(Go.Value.int Go.IntKind.i64 0), (Go.Value.int Go.IntKind.i64 0), (Go.Value.int Go.IntKind.i64 0)]⟩,
  some ⟨.strct [(0, 1, 3), (1, 1, 3), (2, 1, 3)], 3, 24, [(Go.Value.int Go.IntKind.i64 0), (Go.Value.int Go.IntKind.i64 0), (Go.Value.int Go.IntKind.i64 0)]⟩,
  some ⟨.func, 1, 8, [Go.Value.nilFunc]⟩,
  some ⟨.func, 1, 8, [Go.Value.nilFunc]⟩,
  some ⟨.func, 1, 8, [Go.Value.nilFunc]⟩,
  some ⟨.func, 1, 8, [Go.Value.nilFunc]⟩,
  some ⟨.func, 1, 8, [Go.Value.nilFunc]⟩,
  some ⟨.func, 1, 8, [Go.Value.nilFunc]⟩,
  some ⟨.func, 1, 8, [Go.Value.nilFunc]⟩,
  some ⟨.func, 1, 8, [Go.Value.nilFunc]⟩,
  some ⟨.func, 1, 8, [Go.Value.nilFunc]⟩,
  none,
  some ⟨.func, 1, 8, [Go.Value.nilFunc]⟩,
  some ⟨.func, 1, 8, [Go.Value.nilFunc]⟩,
  some ⟨.func, 1, 8, [Go.Value.nilFunc]⟩,
  none,
  some ⟨.func, 1, 8, [Go.Value.nilFunc]⟩,
  some ⟨.func, 1, 8, [Go.Value.nilFunc]⟩,
  some ⟨.strct [(0, 1, 22), (1, 1, 4)], 2, 32, [(Go.Value.slice none 0 0), (Go.Value.bool false)]⟩,
  some ⟨.strct [(0, 1, 22), (1, 1, 4)], 2, 32, [(Go.Value.slice none 0 0), (Go.Value.bool false)]⟩,
  none,
  some ⟨.func, 1, 8, [Go.Value.nilFunc]⟩,
  some ⟨.func, 1, 8, [Go.Value.nilFunc]⟩,
  some ⟨.arr 3 9, 3, 48, [(Go.Value.string { data := #[] }), (Go.Value.string { data := #[] }), (Go.Value.string { data := #[] })]⟩,
  some ⟨.slice 5, 1, 24, [(Go.Value.slice none 0 0)]⟩,
  some ⟨.func, 1, 8, [Go.Value.nilFunc]⟩,
  some ⟨.func, 1, 8, [Go.Value.nilFunc]⟩,
  some ⟨.func, 1, 8, [Go.Value.nilFunc]⟩,
  some ⟨.func, 1, 8, [Go.Value.nilFunc]⟩,
  none,
  some ⟨.func, 1, 8, [Go.Value.nilFunc]⟩,
  some ⟨.func, 1, 8, [Go.Value.nilFunc]⟩,
  some ⟨.func, 1, 8, [Go.Value.nilFunc]⟩,
  some ⟨.func, 1, 8, [Go.Value.nilFunc]⟩,
  some ⟨.ptr 229, 1, 8, [(Go.Value.pointer none)]⟩,
  some ⟨.func, 1, 8, [Go.Value.nilFunc]⟩,
  some ⟨.strct [(0, 1, 176), (1, 1, 3), (2, 1, 3), (3, 1, 3)], 4, 32, [(Go.Value.pointer none), (Go.Value.int Go.IntKind.i64 0), (Go.Value.int Go.IntKind.i64 0), (Go.Value.int Go.IntKind.i64 0)]⟩,
  some ⟨.strct [(0, 1, 176), (1, 1, 3), (2, 1, 3), (3, 1, 3)], 4, 32, [(Go.Value.pointer none), (Go.Value.int Go.IntKind.i64 0), (Go.Value.int Go.IntKind.i64 0), (Go.Value.int Go.IntKind.i64 0)]⟩,
  some ⟨.func, 1, 8, [Go.Value.nilFunc]⟩,
  some ⟨.func, 1, 8, [Go.Value.nilFunc]⟩,
  some ⟨.func, 1, 8, [Go.Value.nilFunc]⟩,
  some ⟨.func, 1, 8, [Go.Value.nilFunc]⟩,
  some ⟨.func, 1, 8, [Go.Value.nilFunc]⟩,
  some ⟨.func, 1, 8, [Go.Value.nilFunc]⟩,
  some ⟨.func, 1, 8, [Go.Value.nilFunc]⟩,
  some ⟨.func, 1, 8, [Go.Value.nilFunc]⟩,
  some ⟨.func, 1, 8, [Go.Value.nilFunc]⟩,
  some ⟨.slice 134, 1, 24, [(Go.Value.slice none 0 0)]⟩,
  some ⟨.func, 1, 8, [Go.Value.nilFunc]⟩,
  some ⟨.int Go.IntKind.u64, 1, 8, [(Go.Value.int Go.IntKind.u64 0)]⟩,
  none,
  some ⟨.func, 1, 8, [Go.Value.nilFunc]⟩,
  some ⟨.func, 1, 8, [Go.Value.nilFunc]⟩,
  some ⟨.slice 143, 1, 24, [(Go.Value.slice none 0 0)]⟩,
  some ⟨.func, 1, 8, [Go.Value.nilFunc]⟩,
  some ⟨.func, 1, 8, [Go.Value.nilFunc]⟩,
  some ⟨.func, 1, 8, [Go.Value.nilFunc]⟩,
  some ⟨.func, 1, 8, [Go.Value.nilFunc]⟩,
  some ⟨.strct [(0, 1, 26)], 1, 8, [(Go.Value.int Go.IntKind.i64 0)]⟩,
  some ⟨.strct [(0, 1, 26)], 1, 8, [(Go.Value.int Go.IntKind.i64 0)]⟩,
  none,
  some ⟨.func, 1, 8, [Go.Value.nilFunc]⟩,
  some ⟨.func, 1, 8, [Go.Value.nilFunc]⟩,
  some ⟨.func, 1, 8, [Go.Value.nilFunc]⟩,
  some ⟨.func, 1, 8, [Go.Value.nilFunc]⟩,
  some ⟨.func, 1, 8, [Go.Value.nilFunc]⟩,
  some ⟨.func, 1, 8, [Go.Value.nilFunc]⟩,
  some ⟨.func, 1, 8, [Go.Value.nilFunc]⟩,
  none,
  some ⟨.func, 1, 8, [Go.Value.nilFunc]⟩,
  some ⟨.func, 1, 8, [Go.Value.nilFunc]⟩,
  some ⟨.map 3 3, 1, 8, [(Go.Value.map none)]⟩,
  none,
  some ⟨.func, 1, 8, [Go.Value.nilFunc]⟩,
  some ⟨.func, 1, 8, [Go.Value.nilFunc]⟩,
  some ⟨.func, 1, 8, [Go.Value.nilFunc]⟩,
  some ⟨.func, 1, 8, [Go.Value.nilFunc]⟩,
  some ⟨.func, 1, 8, [Go.Value.nilFunc]⟩,
  some ⟨.func, 1, 8, [Go.Value.nilFunc]⟩,
  some ⟨.strct [(0, 1, 9), (1, 1, 3), (2, 1, 3), (3, 1, 218), (4, 1, 219), (5, 1, 220)], 6, 56, [(Go.Value.string { data := #[] }), (Go.Value.int Go.IntKind.i64 0), (Go.Value.int Go.IntKind.i64 0), Go.Value.nilFunc, Go.Value.nilFunc, Go.Value.nilFunc]⟩,
  some ⟨.strct [(0, 1, 9), (1, 1, 3), (2, 1, 3), (3, 1, 218), (4, 1, 219), (5, 1, 220)], 6, 56, [(Go.Value.string { data := #[] }), (Go.Value.int Go.IntKind.i64 0), (Go.Value.int Go.IntKind.i64 0), Go.Value.nilFunc, Go.Value.nilFunc, Go.Value.nilFunc]⟩,
  some ⟨.map 5 222, 1, 8, [(Go.Value.map none)]⟩,
  some ⟨.func, 1, 8, [Go.Value.nilFunc]⟩,
  some ⟨.slice 3, 1, 24, [(Go.Value.slice none 0 0)]⟩,
  some ⟨.strct [(0, 1, 3), (1, 1, 191)], 2, 16, [(Go.Value.int Go.IntKind.i64 0), (Go.Value.int Go.IntKind.u64 0)]⟩,
  some ⟨.strct [(0, 1, 3), (1, 1, 191)], 2, 16, [(Go.Value.int Go.IntKind.i64 0), (Go.Value.int Go.IntKind.u64 0)]⟩,
  some ⟨.strct [(0, 2, 227)], 2, 16, [(Go.Value.int Go.IntKind.i64 0), (Go.Value.int Go.IntKind.u64 0)]⟩,
  some ⟨.strct [(0, 2, 227)], 2, 16, [(Go.Value.int Go.IntKind.i64 0), (Go.Value.int Go.IntKind.u64 0)]⟩,
  some ⟨.strct [], 0, 0, []⟩,
  none,
  some ⟨.func, 1, 8, [Go.Value.nilFunc]⟩,
  some ⟨.func, 1, 8, [Go.Value.nilFunc]⟩,
  some ⟨.ptr 59, 1, 8, [(Go.Value.pointer none)]⟩,
  some ⟨.func, 1, 8, [Go.Value.nilFunc]⟩,
  some ⟨.func, 1, 8, [Go.Value.nilFunc]⟩,
  none,
  some ⟨.func, 1, 8, [Go.Value.nilFunc]⟩,
  none,
  some ⟨.func, 1, 8, [Go.Value.nilFunc]⟩,
  some ⟨.int Go.IntKind.u64, 1, 8, [(Go.Value.int Go.IntKind.u64 0)]⟩,
  some ⟨.ptr 244, 1, 8, [(Go.Value.pointer none)]⟩,
  some ⟨.strct [(0, 1, 242), (1, 1, 166)], 2, 32, [(Go.Value.pointer none), (Go.Value.slice none 0 0)]⟩,
  some ⟨.strct [(0, 1, 242), (1, 1, 166)], 2, 32, [(Go.Value.pointer none), (Go.Value.slice none 0 0)]⟩,
  some ⟨.iface, 1, 16, [Go.Value.nilIface]⟩,
  some ⟨.iface, 1, 16, [Go.Value.nilIface]⟩,
  none,
  some ⟨.func, 1, 8, [Go.Value.nilFunc]⟩,
  some ⟨.func, 1, 8, [Go.Value.nilFunc]⟩,
  some ⟨.arr 9 5, 9, 9, [(Go.Value.int Go.IntKind.u8 0), (Go.Value.int Go.IntKind.u8 0), (Go.Value.int Go.IntKind.u8 0), (Go.Value.int Go.IntKind.u8 0), (Go.Value.int Go.IntKind.u8 0), (Go.Value.int Go.IntKind.u8 0), (Go.Value.int Go.IntKind.u8 0), (Go.Value.int Go.IntKind.u8 0), (Go.Value.int Go.IntKind.u8 0)]⟩,
  some ⟨.func, 1, 8, [Go.Value.nilFunc]⟩,
  some ⟨.strct [(0, 1, 26)], 1, 8, [(Go.Value.int Go.IntKind.i64 0)]⟩,
  some ⟨.strct [(0, 1, 26)], 1, 8, [(Go.Value.int Go.IntKind.i64 0)]⟩,
  none,
  some ⟨.func, 1, 8, [Go.Value.nilFunc]⟩,
  some ⟨.func, 1, 8, [Go.Value.nilFunc]⟩,
  some ⟨.func, 1, 8, [Go.Value.nilFunc]⟩,
  some ⟨.func, 1, 8, [Go.Value.nilFunc]⟩,
  none,
  some ⟨.func, 1, 8, [Go.Value.nilFunc]⟩,
  some ⟨.func, 1, 8, [Go.Value.nilFunc]⟩,
  some ⟨.ptr 5, 1, 8, [(Go.Value.pointer none)]⟩,
  some ⟨.func, 1, 8, [Go.Value.nilFunc]⟩,
  some ⟨.func, 1, 8, [Go.Value.nilFunc]⟩,
  none,
  some ⟨.func, 1, 8, [Go.Value.nilFunc]⟩,
  some ⟨.func, 1, 8, [Go.Value.nilFunc]⟩,
  some ⟨.func, 1, 8, [Go.Value.nilFunc]⟩,
  some ⟨.func, 1, 8, [Go.Value.nilFunc]⟩,
  none,
  none,
  some ⟨.arr 0 16, 0, 0, []⟩,
  none,
  none,
  some ⟨.int Go.IntKind.u32, 1, 4, [(Go.Value.int Go.IntKind.u32 0)]⟩,
  some ⟨.int Go.IntKind.u8, 1, 1, [(Go.Value.int Go.IntKind.u8 0)]⟩,
  some ⟨.int Go.IntKind.u8, 1, 1, [(Go.Value.int Go.IntKind.u8 0)]⟩,
  some ⟨.func, 1, 8, [Go.Value.nilFunc]⟩,
  some ⟨.int Go.IntKind.i32, 1, 4, [(Go.Value.int Go.IntKind.i32 0)]⟩,
  some ⟨.int Go.IntKind.i32, 1, 4, [(Go.Value.int Go.IntKind.i32 0)]⟩,
  none,
  none,
  some ⟨.func, 1, 8, [Go.Value.nilFunc]⟩,
  some ⟨.func, 1, 8, [Go.Value.nilFunc]⟩,
  some ⟨.func, 1, 8, [Go.Value.nilFunc]⟩,
  some ⟨.ptr 295, 1, 8, [(Go.Value.pointer none)]⟩,
  some ⟨.func, 1, 8, [Go.Value.nilFunc]⟩,
  some ⟨.func, 1, 8, [Go.Value.nilFunc]⟩,
  some ⟨.func, 1, 8, [Go.Value.nilFunc]⟩,
  some ⟨.ptr 300, 1, 8, [(Go.Value.pointer none)]⟩,
  some ⟨.strct [(0, 1, 290)], 1, 8, [(Go.Value.pointer none)]⟩,
  some ⟨.strct [(0, 1, 290)], 1, 8, [(Go.Value.pointer none)]⟩,
  some ⟨.func, 1, 8, [Go.Value.nilFunc]⟩,
  some ⟨.strct [(0, 1, 292), (1, 1, 292)], 2, 16, [(Go.Value.pointer none), (Go.Value.pointer none)]⟩,
  some ⟨.strct [(0, 1, 292), (1, 1, 292)], 2, 16, [(Go.Value.pointer none), (Go.Value.pointer none)]⟩,
  some ⟨.func, 1, 8, [Go.Value.nilFunc]⟩,
  some ⟨.arr 8 275, 8, 32, [(Go.Value.int Go.IntKind.u32 0), (Go.Value.int Go.IntKind.u32 0), (Go.Value.int Go.IntKind.u32 0), (Go.Value.int Go.IntKind.u32 0), (Go.Value.int Go.IntKind.u32 0), (Go.Value.int Go.IntKind.u32 0), (Go.Value.int Go.IntKind.u32 0), (Go.Value.int Go.IntKind.u32 0)]⟩,
  some ⟨.arr 64 5, 64, 64, [(Go.Value.int Go.IntKind.u8 0), (Go.Value.int Go.IntKind.u8 0), (Go.Value.int Go.IntKind.u8 0), (Go.Value.int Go.IntKind.u8 0), (Go.Value.int Go.IntKind.u8 0), (Go.Value.int Go.IntKind.u8 0), (Go.Value.int Go.IntKind.u8 0), (Go.Value.int Go.IntKind.u8 0), (Go.Value.int Go.IntKind.u8 0), (Go.Value.int Go.IntKind.u8 0), (Go.Value.int Go.IntKind.u8 0), (Go.Value.int Go.IntKind.u8 0), (Go.Value.int Go.IntKind.u8 0), (Go.Value.int Go.IntKind.u8 0), (Go.Value.int Go.IntKind.u8 0), (Go.Value.int Go.IntKind.u8 0), (Go.Value.int Go.IntKind.u8 0), (Go.Value.int Go.IntKind.u8 0), (Go.Value.int Go.IntKind.u8 0), (Go.Value.int Go.IntKind.u8 0), (Go.Value.int Go.IntKind.u8 0), (Go.Value.int Go.IntKind.u8 0), (Go.Value.int Go.IntKind.u8 0), (Go.Value.int Go.IntKind.u8 0), (Go.Value.int Go.IntKind.u8 0), (Go.Value.int Go.IntKind.u8 0), (Go.Value.int Go.IntKind.u8 0), (Go.Value.int Go.IntKind.u8 0), (Go.Value.int Go.IntKind.u8 0), (Go.Value.int Go.IntKind.u8 0), (Go.Value.int Go.IntKind.u8 0), (Go.Value.int Go.IntKind.u8 0), (Go.Value.int Go.IntKind.u8 0), (Go.Value.int Go.IntKind.u8 0), (Go.Value.int Go.IntKind.u8 0), (Go.Value.int Go.IntKind.u8 0), (Go.Value.int Go.IntKind.u8 0), (Go.Value.int Go.IntKind.u8 0), (Go.Value.int Go.IntKind.u8 0), (Go.Value.int Go.IntKind.u8 0), (Go.Value.int Go.IntKind.u8 0), (Go.Value.int Go.IntKind.u8 0), (Go.Value.int Go.IntKind.u8 0), (Go.Value.int Go.IntKind.u8 0), (Go.Value.int Go.IntKind.u8 0), (Go.Value.int Go.IntKind.u8 0), (Go.Value.int Go.IntKind.u8 0), (Go.Value.int Go.IntKind.u8 0), (Go.Value.int Go.IntKind.u8 0), (Go.Value.int Go.IntKind.u8 0), (Go.Value.int Go.IntKind.u8 0), (Go.Value.int Go.IntKind.u8 0), (Go.Value.int Go.IntKind.u8 0), (Go.Value.int Go.IntKind.u8 0), (Go.Value.int Go.IntKind.u8 0), (Go.Value.int Go.IntKind.u8 0), (Go.Value.int Go.IntKind.u8 0), (Go.Value.int Go.IntKind.u8 0), (Go.Value.int Go.IntKind.u8 0), (Go.Value.int Go.IntKind.u8 0), (Go.Value.int Go.IntKind.u8 0), (Go.Value.int Go.IntKind.u8 0), (Go.Value.int Go.IntKind.u8 0), (Go.Value.int Go.IntKind.u8 0)]⟩,
  some ⟨.strct [(0, 8, 297), (8, 64, 298), (72, 1, 3)], 73, 104, [(Go.Value.int Go.IntKind.u32 0), (Go.Value.int Go.IntKind.u32 0), (Go.Value.int Go.IntKind.u32 0), (Go.Value.int Go.IntKind.u32 0), (Go.Value.int Go.IntKind.u32 0), (Go.Value.int Go.IntKind.u32 0), (Go.Value.int Go.IntKind.u32 0), (Go.Value.int Go.IntKind.u32 0), (Go.Value.int Go.IntKind.u8 0), (Go.Value.int Go.IntKind.u8 0), (Go.Value.int Go.IntKind.u8 0), (Go.Value.int Go.IntKind.u8 0), (Go.Value.int Go.IntKind.u8 0), (Go.Value.int Go.IntKind.u8 0), (Go.Value.int Go.IntKind.u8 0), (Go.Value.int Go.IntKind.u8 0), (Go.Value.int Go.IntKind.u8 0), (Go.Value.int Go.IntKind.u8 0), (Go.Value.int Go.IntKind.u8 0), (Go.Value.int Go.IntKind.u8 0), (Go.Value.int Go.IntKind.u8 0), (Go.Value.int Go.IntKind.u8 0), (Go.Value.int Go.IntKind.u8 0), (Go.Value.int Go.IntKind.u8 0), (Go.Value.int Go.IntKind.u8 0), (Go.Value.int Go.IntKind.u8 0), (Go.Value.int Go.IntKind.u8 0), (Go.Value.int Go.IntKind.u8 0), (Go.Value.int Go.IntKind.u8 0), (Go.Value.int Go.IntKind.u8 0), (Go.Value.int Go.IntKind.u8 0), (Go.Value.int Go.IntKind.u8 0), (Go.Value.int Go.IntKind.u8 0), (Go.Value.int Go.IntKind.u8 0), (Go.Value.int Go.IntKind.u8 0), (Go.Value.int Go.IntKind.u8 0), (Go.Value.int Go.IntKind.u8 0), (Go.Value.int Go.IntKind.u8 0), (Go.Value.int Go.IntKind.u8 0), (Go.Value.int Go.IntKind.u8 0), (Go.Value.int Go.IntKind.u8 0), (Go.Value.int Go.IntKind.u8 0), (Go.Value.int Go.IntKind.u8 0), (Go.Value.int Go.IntKind.u8 0), (Go.Value.int Go.IntKind.u8 0), (Go.Value.int Go.IntKind.u8 0), (Go.Value.int Go.IntKind.u8 0), (Go.Value.int Go.IntKind.u8 0), (Go.Value.int Go.IntKind.u8 0), (Go.Value.int Go.IntKind.u8 0), (Go.Value.int Go.IntKind.u8 0), (Go.Value.int Go.IntKind.u8 0), (Go.Value.int Go.IntKind.u8 0), (Go.Value.int Go.IntKind.u8 0), (Go.Value.int Go.IntKind.u8 0), (Go.Value.int Go.IntKind.u8 0), (Go.Value.int Go.IntKind.u8 0), (Go.Value.int Go.IntKind.u8 0), (Go.Value.int Go.IntKind.u8 0), (Go.Value.int Go.IntKind.u8 0), (Go.Value.int Go.IntKind.u8 0), (Go.Value.int Go.IntKind.u8 0), (Go.Value.int Go.IntKind.u8 0), (Go.Value.int Go.IntKind.u8 0), (Go.Value.int Go.IntKind.u8 0), (Go.Value.int Go.IntKind.u8 0), (Go.Value.int Go.IntKind.u8 0), (Go.Value.int Go.IntKind.u8 0), (Go.Value.int Go.IntKind.u8 0), (Go.Value.int Go.IntKind.u8 0), (Go.Value.int Go.IntKind.u8 0), (Go.Value.int Go.IntKind.u8 0), (Go.Value.int Go.IntKind.i64 0)]⟩,
  some ⟨.strct [(0, 8, 297), (8, 64, 298), (72, 1, 3)], 73, 104, [(Go.Value.int Go.IntKind.u32 0), (Go.Value.int Go.IntKind.u32 0), (Go.Value.int Go.IntKind.u32 0), (Go.Value.int Go.IntKind.u32 0), (Go.Value.int Go.IntKind.u32 0), (Go.Value.int Go.IntKind.u32 0), (Go.Value.int Go.IntKind.u32 0), (Go.Value.int Go.IntKind.u32 0), (Go.Value.int Go.IntKind.u8 0), (Go.Value.int Go.IntKind.u8 0), (Go.Value.int Go.IntKind.u8 0), (Go.Value.int Go.IntKind.u8 0), (Go.Value.int Go.IntKind.u8 0), (Go.Value.int Go.IntKind.u8 0), (Go.Value.int Go.IntKind.u8 0), (Go.Value.int Go.IntKind.u8 0), (Go.Value.int Go.IntKind.u8 0), (Go.Value.int Go.IntKind.u8 0), (Go.Value.int Go.IntKind.u8 0), (Go.Value.int Go.IntKind.u8 0), (Go.Value.int Go.IntKind.u8 0), (Go.Value.int Go.IntKind.u8 0), (Go.Value.int Go.IntKind.u8 0), (Go.Value.int Go.IntKind.u8 0), (Go.Value.int Go.IntKind.u8 0), (Go.Value.int Go.IntKind.u8 0), (Go.Value.int Go.IntKind.u8 0), (Go.Value.int Go.IntKind.u8 0), (Go.Value.int Go.IntKind.u8 0), (Go.Value.int Go.IntKind.u8 0), (Go.Value.int Go.IntKind.u8 0), (Go.Value.int Go.IntKind.u8 0), (Go.Value.int Go.IntKind.u8 0), (Go.Value.int Go.IntKind.u8 0), (Go.Value.int Go.IntKind.u8 0), (Go.Value.int Go.IntKind.u8 0), (Go.Value.int Go.IntKind.u8 0), (Go.Value.int Go.IntKind.u8 0), (Go.Value.int Go.IntKind.u8 0), (Go.Value.int Go.IntKind.u8 0), (Go.Value.int Go.IntKind.u8 0), (Go.Value.int Go.IntKind.u8 0), (Go.Value.int Go.IntKind.u8 0), (Go.Value.int Go.IntKind.u8 0), (Go.Value.int Go.IntKind.u8 0), (Go.Value.int Go.IntKind.u8 0), (Go.Value.int Go.IntKind.u8 0), (Go.Value.int Go.IntKind.u8 0), (Go.Value.int Go.IntKind.u8 0), (Go.Value.int Go.IntKind.u8 0), (Go.Value.int Go.IntKind.u8 0), (Go.Value.int Go.IntKind.u8 0), (Go.Value.int Go.IntKind.u8 0), (Go.Value.int Go.IntKind.u8 0), (Go.Value.int Go.IntKind.u8 0), (Go.Value.int Go.IntKind.u8 0), (Go.Value.int Go.IntKind.u8 0), (Go.Value.int Go.IntKind.u8 0), (Go.Value.int Go.IntKind.u8 0), (Go.Value.int Go.IntKind.u8 0), (Go.Value.int Go.IntKind.u8 0), (Go.Value.int Go.IntKind.u8 0), (Go.Value.int Go.IntKind.u8 0), (Go.Value.int Go.IntKind.u8 0), (Go.Value.int Go.IntKind.u8 0), (Go.Value.int Go.IntKind.u8 0), (Go.Value.int Go.IntKind.u8 0), (Go.Value.int Go.IntKind.u8 0), (Go.Value.int Go.IntKind.u8 0), (Go.Value.int Go.IntKind.u8 0), (Go.Value.int Go.IntKind.u8 0), (Go.Value.int Go.IntKind.u8 0), (Go.Value.int Go.IntKind.i64 0)]⟩,
  some ⟨.arr 16 275, 16, 64, [(Go.Value.int Go.IntKind.u32 0), (Go.Value.int Go.IntKind.u32 0), (Go.Value.int Go.IntKind.u32 0), (Go.Value.int Go.IntKind.u32 0), (Go.Value.int Go.IntKind.u32 0), (Go.Value.int Go.IntKind.u32 0), (Go.Value.int Go.IntKind.u32 0), (Go.Value.int Go.IntKind.u32 0), (Go.Value.int Go.IntKind.u32 0), (Go.Value.int Go.IntKind.u32 0), (Go.Value.int Go.IntKind.u32 0), (Go.Value.int Go.IntKind.u32 0), (Go.Value.int Go.IntKind.u32 0), (Go.Value.int Go.IntKind.u32 0), (Go.Value.int Go.IntKind.u32 0), (Go.Value.int Go.IntKind.u32 0)]⟩,
  some ⟨.arr 64 275, 64, 256, [(Go.Value.int Go.IntKind.u32 0), (Go.Value.int Go.IntKind.u32 0), (Go.Value.int Go.IntKind.u32 0), (Go.Value.int Go.IntKind.u32 0), (Go.Value.int Go.IntKind.u32 0), (Go.Value.int Go.IntKind.u32 0), (Go.Value.int Go.IntKind.u32 0), (Go.Value.int Go.IntKind.u32 0), (Go.Value.int Go.IntKind.u32 0), (Go.Value.int Go.IntKind.u32 0), (Go.Value.int Go.IntKind.u32 0), (Go.Value.int Go.IntKind.u32 0), (Go.Value.int Go.IntKind.u32 0), (Go.Value.int Go.IntKind.u32 0), (Go.Value.int Go.IntKind.u32 0), (Go.Value.int Go.IntKind.u32 0), (Go.Value.int Go.IntKind.u32 0), (Go.Value.int Go.IntKind.u32 0), (Go.Value.int Go.IntKind.u32 0), (Go.Value.int Go.IntKind.u32 0), (Go.Value.int Go.IntKind.u32 0), (Go.Value.int Go.IntKind.u32 0), (Go.Value.int Go.IntKind.u32 0), (Go.Value.int Go.IntKind.u32 0), (Go.Value.int Go.IntKind.u32 0), (Go.Value.int Go.IntKind.u32 0), (Go.Value.int Go.IntKind.u32 0), (Go.Value.int Go.IntKind.u32 0), (Go.Value.int Go.IntKind.u32 0), (Go.Value.int Go.IntKind.u32 0), (Go.Value.int Go.IntKind.u32 0), (Go.Value.int Go.IntKind.u32 0), (Go.Value.int Go.IntKind.u32 0), (Go.Value.int Go.IntKind.u32 0), (Go.Value.int Go.IntKind.u32 0), (Go.Value.int Go.IntKind.u32 0), (Go.Value.int Go.IntKind.u32 0), (Go.Value.int Go.IntKind.u32 0), (Go.Value.int Go.IntKind.u32 0), (Go.Value.int Go.IntKind.u32 0), (Go.Value.int Go.IntKind.u32 0), (Go.Value.int Go.IntKind.u32 0), (Go.Value.int Go.IntKind.u32 0), (Go.Value.int Go.IntKind.u32 0), (Go.Value.int Go.IntKind.u32 0), (Go.Value.int Go.IntKind.u32 0), (Go.Value.int Go.IntKind.u32 0), (Go.Value.int Go.IntKind.u32 0), (Go.Value.int Go.IntKind.u32 0), (Go.Value.int Go.IntKind.u32 0), (Go.Value.int Go.IntKind.u32 0), (Go.Value.int Go.IntKind.u32 0), (Go.Value.int Go.IntKind.u32 0), (Go.Value.int Go.IntKind.u32 0), (Go.Value.int Go.IntKind.u32 0), (Go.Value.int Go.IntKind.u32 0), (Go.Value.int Go.IntKind.u32 0), (Go.Value.int Go.IntKind.u32 0), (Go.Value.int Go.IntKind.u32 0), (Go.Value.int Go.IntKind.u32 0), (Go.Value.int Go.IntKind.u32 0), (Go.Value.int Go.IntKind.u32 0), (Go.Value.int Go.IntKind.u32 0), (Go.Value.int Go.IntKind.u32 0)]⟩,
  some ⟨.func, 1, 8, [Go.Value.nilFunc]⟩]
def TT : Wk.Tab := Wk.nth TTl
theorem TT_eq (t : Nat) : TT t = Wk.nth TTl t := rfl
theorem tok1 : Wk.TOk Tryz.prog 1 ⟨.func, 1, 8, [Go.Value.nilFunc]⟩ := ⟨⟨Tryz.t1, _, by kernel_rfl, rfl, rfl, rfl, by kernel_rfl⟩, ⟨_, _, _, Tryz.underlying1⟩, by kernel_rfl⟩
theorem tok2 : Wk.TOk Tryz.prog 2 ⟨.int Go.IntKind.i64, 1, 8, [(Go.Value.int Go.IntKind.i64 0)]⟩ := ⟨⟨Tryz.t2, _, by kernel_rfl, rfl, rfl, rfl, by kernel_rfl⟩, Tryz.underlying2, by kernel_rfl⟩
theorem tok3 : Wk.TOk Tryz.prog 3 ⟨.int Go.IntKind.i64, 1, 8, [(Go.Value.int Go.IntKind.i64 0)]⟩ := ⟨⟨Tryz.t3, _, by kernel_rfl, rfl, rfl, rfl, by kernel_rfl⟩, Tryz.underlying3, by kernel_rfl⟩
theorem tok4 : Wk.TOk Tryz.prog 4 ⟨.bool, 1, 1, [(Go.Value.bool false)]⟩ := ⟨⟨Tryz.t4, _, by kernel_rfl, rfl, rfl, rfl, by kernel_rfl⟩, Tryz.underlying4, by kernel_rfl⟩
theorem tok5 : Wk.TOk Tryz.prog 5 ⟨.int Go.IntKind.u8, 1, 1, [(Go.Value.int Go.IntKind.u8 0)]⟩ := ⟨⟨Tryz.t5, _, by kernel_rfl, rfl, rfl, rfl, by kernel_rfl⟩, Tryz.underlying5, by kernel_rfl⟩
theorem tok6 : Wk.TOk Tryz.prog 6 ⟨.int Go.IntKind.u8, 1, 1, [(Go.Value.int Go.IntKind.u8 0)]⟩ := ⟨⟨Tryz.t6, _, by kernel_rfl, rfl, rfl, rfl, by kernel_rfl⟩, Tryz.underlying6, by kernel_rfl⟩
theorem tok7 : Wk.TOk Tryz.prog 7 ⟨.strct [(0, 1, 2), (1, 1, 3), (2, 1, 4), (3, 1, 6)], 4, 24, [(Go.Value.int Go.IntKind.i64 0), (Go.Value.int Go.IntKind.i64 0), (Go.Value.bool false), (Go.Value.int Go.IntKind.u8 0)]⟩ := ⟨⟨Tryz.t7, _, by kernel_rfl, rfl, rfl, rfl, by kernel_rfl⟩, ⟨_, Tryz.underlying7, by kernel_rfl, Tryz.stoodInHeld7, by kernel_rfl⟩, by kernel_rfl⟩
theorem tok8 : Wk.TOk Tryz.prog 8 ⟨.strct [(0, 1, 2), (1, 1, 3), (2, 1, 4), (3, 1, 6)], 4, 24, [(Go.Value.int Go.IntKind.i64 0), (Go.Value.int Go.IntKind.i64 0), (Go.Value.bool false), (Go.Value.int Go.IntKind.u8 0)]⟩ := ⟨⟨Tryz.t8, _, by kernel_rfl, rfl, rfl, rfl, by kernel_rfl⟩, ⟨_, Tryz.underlying8, by kernel_rfl, Tryz.stoodInHeld8, by kernel_rfl⟩, by kernel_rfl⟩
theorem tok9 : Wk.TOk Tryz.prog 9 ⟨.string, 1, 16, [(Go.Value.string { data := #[] })]⟩ := ⟨⟨Tryz.t9, _, by kernel_rfl, rfl, rfl, rfl, by kernel_rfl⟩, Tryz.underlying9, by kernel_rfl⟩
theorem tok10 : Wk.TOk Tryz.prog 10 ⟨.string, 1, 16, [(Go.Value.string { data := #[] })]⟩ := ⟨⟨Tryz.t10, _, by kernel_rfl, rfl, rfl, rfl, by kernel_rfl⟩, Tryz.underlying10, by kernel_rfl⟩
theorem tok11 : Wk.TOk Tryz.prog 11 ⟨.string, 1, 16, [(Go.Value.string { data := #[] })]⟩ := ⟨⟨Tryz.t11, _, by kernel_rfl, rfl, rfl, rfl, by kernel_rfl⟩, Tryz.underlying11, by kernel_rfl⟩
theorem tok12 : Wk.TOk Tryz.prog 12 ⟨.int Go.IntKind.u64, 1, 8, [(Go.Value.int Go.IntKind.u64 0)]⟩ := ⟨⟨Tryz.t12, _, by kernel_rfl, rfl, rfl, rfl, by kernel_rfl⟩, Tryz.underlying12, by kernel_rfl⟩
theorem tok15 : Wk.TOk Tryz.prog 15 ⟨.ptr 271, 1, 8, [(Go.Value.pointer none)]⟩ := ⟨⟨Tryz.t15, _, by kernel_rfl, rfl, rfl, rfl, by kernel_rfl⟩, Tryz.underlying15, by kernel_rfl⟩
theorem tok16 : Wk.TOk Tryz.prog 16 ⟨.ptr 274, 1, 8, [(Go.Value.pointer none)]⟩ := ⟨⟨Tryz.t16, _, by kernel_rfl, rfl, rfl, rfl, by kernel_rfl⟩, Tryz.underlying16, by kernel_rfl⟩
theorem tok17 : Wk.TOk Tryz.prog 17 ⟨.ptr 282, 1, 8, [(Go.Value.pointer none)]⟩ := ⟨⟨Tryz.t17, _, by kernel_rfl, rfl, rfl, rfl, by kernel_rfl⟩, Tryz.underlying17, by kernel_rfl⟩
theorem tok20 : Wk.TOk Tryz.prog 20 ⟨.iface, 1, 16, [Go.Value.nilIface]⟩ := ⟨⟨Tryz.t20, _, by kernel_rfl, rfl, rfl, rfl, by kernel_rfl⟩, ⟨_, Tryz.underlying20⟩, by kernel_rfl⟩
theorem tok21 : Wk.TOk Tryz.prog 21 ⟨.int Go.IntKind.i32, 1, 4, [(Go.Value.int Go.IntKind.i32 0)]⟩ := ⟨⟨Tryz.t21, _, by kernel_rfl, rfl, rfl, rfl, by kernel_rfl⟩, Tryz.underlying21, by kernel_rfl⟩
theorem tok22 : Wk.TOk Tryz.prog 22 ⟨.slice 9, 1, 24, [(Go.Value.slice none 0 0)]⟩ := ⟨⟨Tryz.t22, _, by kernel_rfl, rfl, rfl, rfl, by kernel_rfl⟩, Tryz.underlying22, by kernel_rfl⟩
theorem tok23 : Wk.TOk Tryz.prog 23 ⟨.func, 1, 8, [Go.Value.nilFunc]⟩ := ⟨⟨Tryz.t23, _, by kernel_rfl, rfl, rfl, rfl, by kernel_rfl⟩, ⟨_, _, _, Tryz.underlying23⟩, by kernel_rfl⟩
theorem tok24 : Wk.TOk Tryz.prog 24 ⟨.func, 1, 8, [Go.Value.nilFunc]⟩ := ⟨⟨Tryz.t24, _, by kernel_rfl, rfl, rfl, rfl, by kernel_rfl⟩, ⟨_, _, _, Tryz.underlying24⟩, by kernel_rfl⟩
theorem tok25 : Wk.TOk Tryz.prog 25 ⟨.ptr 81, 1, 8, [(Go.Value.pointer none)]⟩ := ⟨⟨Tryz.t25, _, by kernel_rfl, rfl, rfl, rfl, by kernel_rfl⟩, Tryz.underlying25, by kernel_rfl⟩
theorem tok26 : Wk.TOk Tryz.prog 26 ⟨.int Go.IntKind.i64, 1, 8, [(Go.Value.int Go.IntKind.i64 0)]⟩ := ⟨⟨Tryz.t26, _, by kernel_rfl, rfl, rfl, rfl, by kernel_rfl⟩, Tryz.underlying26, by kernel_rfl⟩
theorem tok28 : Wk.TOk Tryz.prog 28 ⟨.func, 1, 8, [Go.Value.nilFunc]⟩ := ⟨⟨Tryz.t28, _, by kernel_rfl, rfl, rfl, rfl, by kernel_rfl⟩, ⟨_, _, _, Tryz.underlying28⟩, by kernel_rfl⟩
theorem tok30 : Wk.TOk Tryz.prog 30 ⟨.func, 1, 8, [Go.Value.nilFunc]⟩ := ⟨⟨Tryz.t30, _, by kernel_rfl, rfl, rfl, rfl, by kernel_rfl⟩, ⟨_, _, _, Tryz.underlying30⟩, by kernel_rfl⟩
theorem tok31 : Wk.TOk Tryz.prog 31 ⟨.ptr 91, 1, 8, [(Go.Value.pointer none)]⟩ := ⟨⟨Tryz.t31, _, by kernel_rfl, rfl, rfl, rfl, by kernel_rfl⟩, Tryz.underlying31, by kernel_rfl⟩
theorem tok33 : Wk.TOk Tryz.prog 33 ⟨.func, 1, 8, [Go.Value.nilFunc]⟩ := ⟨⟨Tryz.t33, _, by kernel_rfl, rfl, rfl, rfl, by kernel_rfl⟩, ⟨_, _, _, Tryz.underlying33⟩, by kernel_rfl⟩
theorem tok34 : Wk.TOk Tryz.prog 34 ⟨.ptr 94, 1, 8, [(Go.Value.pointer none)]⟩ := ⟨⟨Tryz.t34, _, by kernel_rfl, rfl, rfl, rfl, by kernel_rfl⟩, Tryz.underlying34, by kernel_rfl⟩
theorem tok35 : Wk.TOk Tryz.prog 35 ⟨.func, 1, 8, [Go.Value.nilFunc]⟩ := ⟨⟨Tryz.t35, _, by kernel_rfl, rfl, rfl, rfl, by kernel_rfl⟩, ⟨_, _, _, Tryz.underlying35⟩, by kernel_rfl⟩
theorem tok36 : Wk.TOk Tryz.prog 36 ⟨.func, 1, 8, [Go.Value.nilFunc]⟩ := ⟨⟨Tryz.t36, _, by kernel_rfl, rfl, rfl, rfl, by kernel_rfl⟩, ⟨_, _, _, Tryz.underlying36⟩, by kernel_rfl⟩
theorem tok37 : Wk.TOk Tryz.prog 37 ⟨.strct [(0, 1, 3), (1, 1, 3), (2, 1, 3)], 3, 24, [(Go.Value.int Go.IntKind.i64 0), (Go.Value.int Go.IntKind.i64 0), (Go.Value.int Go.IntKind.i64 0)]⟩ := ⟨⟨Tryz.t37, _, by kernel_rfl, rfl, rfl, rfl, by kernel_rfl⟩, ⟨_, Tryz.underlying37, by kernel_rfl, Tryz.stoodInHeld37, by kernel_rfl⟩, by kernel_rfl⟩
theorem tok38 : Wk.TOk Tryz.prog 38 ⟨.strct [(0, 1, 3), (1, 1, 3), (2, 1, 3)], 3, 24, [(Go.Value.int Go.IntKind.i64 0), (Go.Value.int Go.IntKind.i64 0), (Go.Value.int Go.IntKind.i64 0)]⟩ := ⟨⟨Tryz.t38, _, by kernel_rfl, rfl, rfl, rfl, by kernel_rfl⟩, ⟨_, Tryz.underlying38, by kernel_rfl, Tryz.stoodInHeld38, by kernel_rfl⟩, by kernel_rfl⟩
theorem tok39 : Wk.TOk Tryz.prog 39 ⟨.slice 48, 1, 24, [(Go.Value.slice none 0 0)]⟩ := ⟨⟨Tryz.t39, _, by kernel_rfl, rfl, rfl, rfl, by kernel_rfl⟩, Tryz.underlying39, by kernel_rfl⟩
theorem tok40 : Wk.TOk Tryz.prog 40 ⟨.strct [(0, 3, 38), (3, 1, 3), (4, 1, 39), (5, 1, 22)], 6, 80, [(Go.Value.int Go.IntKind.i64 0), (Go.Value.int Go.IntKind.i64 0), (Go.Value.int Go.IntKind.i64 0), (Go.Value.int Go.IntKind.i64 0), (Go.Value.slice none 0 0), (Go.Value.slice none 0 0)]⟩ := ⟨⟨Tryz.t40, _, by kernel_rfl, rfl, rfl, rfl, by kernel_rfl⟩, ⟨_, Tryz.underlying40, by kernel_rfl, Tryz.stoodInHeld40, by kernel_rfl⟩, by kernel_rfl⟩
theorem tok41 : Wk.TOk Tryz.prog 41 ⟨.strct [(0, 3, 38), (3, 1, 3), (4, 1, 39), (5, 1, 22)], 6, 80, [(Go.Value.int Go.IntKind.i64 0), (Go.Value.int Go.IntKind.i64 0), (Go.Value.int Go.IntKind.i64 0), (Go.Value.int Go.IntKind.i64 0), (Go.Value.slice none 0 0), (Go.Value.slice none 0 0)]⟩ := ⟨⟨Tryz.t41, _, by kernel_rfl, rfl, rfl, rfl, by kernel_rfl⟩, ⟨_, Tryz.underlying41, by kernel_rfl, Tryz.stoodInHeld41, by kernel_rfl⟩, by kernel_rfl⟩
theorem tok43 : Wk.TOk Tryz.prog 43 ⟨.func, 1, 8, [Go.Value.nilFunc]⟩ := ⟨⟨Tryz.t43, _, by kernel_rfl, rfl, rfl, rfl, by kernel_rfl⟩, ⟨_, _, _, Tryz.underlying43⟩, by kernel_rfl⟩
theorem tok44 : Wk.TOk Tryz.prog 44 ⟨.func, 1, 8, [Go.Value.nilFunc]⟩ := ⟨⟨Tryz.t44, _, by kernel_rfl, rfl, rfl, rfl, by kernel_rfl⟩, ⟨_, _, _, Tryz.underlying44⟩, by kernel_rfl⟩
theorem tok46 : Wk.TOk Tryz.prog 46 ⟨.func, 1, 8, [Go.Value.nilFunc]⟩ := ⟨⟨Tryz.t46, _, by kernel_rfl, rfl, rfl, rfl, by kernel_rfl⟩, ⟨_, _, _, Tryz.underlying46⟩, by kernel_rfl⟩
theorem tok47 : Wk.TOk Tryz.prog 47 ⟨.strct [(0, 1, 3), (1, 1, 9)], 2, 24, [(Go.Value.int Go.IntKind.i64 0), (Go.Value.string { data := #[] })]⟩ := ⟨⟨Tryz.t47, _, by kernel_rfl, rfl, rfl, rfl, by kernel_rfl⟩, ⟨_, Tryz.underlying47, by kernel_rfl, Tryz.stoodInHeld47, by kernel_rfl⟩, by kernel_rfl⟩
theorem tok48 : Wk.TOk Tryz.prog 48 ⟨.strct [(0, 1, 3), (1, 1, 9)], 2, 24, [(Go.Value.int Go.IntKind.i64 0), (Go.Value.string { data := #[] })]⟩ := ⟨⟨Tryz.t48, _, by kernel_rfl, rfl, rfl, rfl, by kernel_rfl⟩, ⟨_, Tryz.underlying48, by kernel_rfl, Tryz.stoodInHeld48, by kernel_rfl⟩, by kernel_rfl⟩
theorem tok49 : Wk.TOk Tryz.prog 49 ⟨.func, 1, 8, [Go.Value.nilFunc]⟩ := ⟨⟨Tryz.t49, _, by kernel_rfl, rfl, rfl, rfl, by kernel_rfl⟩, ⟨_, _, _, Tryz.underlying49⟩, by kernel_rfl⟩
theorem tok50 : Wk.TOk Tryz.prog 50 ⟨.func, 1, 8, [Go.Value.nilFunc]⟩ := ⟨⟨Tryz.t50, _, by kernel_rfl, rfl, rfl, rfl, by kernel_rfl⟩, ⟨_, _, _, Tryz.underlying50⟩, by kernel_rfl⟩
theorem tok51 : Wk.TOk Tryz.prog 51 ⟨.strct [(0, 3, 38), (3, 1, 3), (4, 1, 39), (5, 1, 3)], 6, 64, [(Go.Value.int Go.IntKind.i64 0), (Go.Value.int Go.IntKind.i64 0), (Go.Value.int Go.IntKind.i64 0), (Go.Value.int Go.IntKind.i64 0), (Go.Value.slice none 0 0), (Go.Value.int Go.IntKind.i64 0)]⟩ := ⟨⟨Tryz.t51, _, by kernel_rfl, rfl, rfl, rfl, by kernel_rfl⟩, ⟨_, Tryz.underlying51, by kernel_rfl, Tryz.stoodInHeld51, by kernel_rfl⟩, by kernel_rfl⟩
theorem tok52 : Wk.TOk Tryz.prog 52 ⟨.strct [(0, 3, 38), (3, 1, 3), (4, 1, 39), (5, 1, 3)], 6, 64, [(Go.Value.int Go.IntKind.i64 0), (Go.Value.int Go.IntKind.i64 0), (Go.Value.int Go.IntKind.i64 0), (Go.Value.int Go.IntKind.i64 0), (Go.Value.slice none 0 0), (Go.Value.int Go.IntKind.i64 0)]⟩ := ⟨⟨Tryz.t52, _, by kernel_rfl, rfl, rfl, rfl, by kernel_rfl⟩, ⟨_, Tryz.underlying52, by kernel_rfl, Tryz.stoodInHeld52, by kernel_rfl⟩, by kernel_rfl⟩
theorem tok53 : Wk.TOk Tryz.prog 53 ⟨.func, 1, 8, [Go.Value.nilFunc]⟩ := ⟨⟨Tryz.t53, _, by kernel_rfl, rfl, rfl, rfl, by kernel_rfl⟩, ⟨_, _, _, Tryz.underlying53⟩, by kernel_rfl⟩
theorem tok54 : Wk.TOk Tryz.prog 54 ⟨.func, 1, 8, [Go.Value.nilFunc]⟩ := ⟨⟨Tryz.t54, _, by kernel_rfl, rfl, rfl, rfl, by kernel_rfl⟩, ⟨_, _, _, Tryz.underlying54⟩, by kernel_rfl⟩
theorem tok55 : Wk.TOk Tryz.prog 55 ⟨.ptr 112, 1, 8, [(Go.Value.pointer none)]⟩ := ⟨⟨Tryz.t55, _, by kernel_rfl, rfl, rfl, rfl, by kernel_rfl⟩, Tryz.underlying55, by kernel_rfl⟩
theorem tok57 : Wk.TOk Tryz.prog 57 ⟨.func, 1, 8, [Go.Value.nilFunc]⟩ := ⟨⟨Tryz.t57, _, by kernel_rfl, rfl, rfl, rfl, by kernel_rfl⟩, ⟨_, _, _, Tryz.underlying57⟩, by kernel_rfl⟩
theorem tok58 : Wk.TOk Tryz.prog 58 ⟨.strct [(0, 1, 5), (1, 3, 38), (4, 1, 3), (5, 1, 39), (6, 1, 9), (7, 1, 4), (8, 1, 9)], 9, 104, [(Go.Value.int Go.IntKind.u8 0), (Go.Value.int Go.IntKind.i64 0), (Go.Value.int Go.IntKind.i64 0), (Go.Value.int Go.IntKind.i64 0), (Go.Value.int Go.IntKind.i64 0), (Go.Value.slice none 0 0), (Go.Value.string { data := #[] }), (Go.Value.bool false), (Go.Value.string { data := #[] })]⟩ := ⟨⟨Tryz.t58, _, by kernel_rfl, rfl, rfl, rfl, by kernel_rfl⟩, ⟨_, Tryz.underlying58, by kernel_rfl, Tryz.stoodInHeld58, by kernel_rfl⟩, by kernel_rfl⟩
theorem tok59 : Wk.TOk Tryz.prog 59 ⟨.strct [(0, 1, 5), (1, 3, 38), (4, 1, 3), (5, 1, 39), (6, 1, 9), (7, 1, 4), (8, 1, 9)], 9, 104, [(Go.Value.int Go.IntKind.u8 0), (Go.Value.int Go.IntKind.i64 0), (Go.Value.int Go.IntKind.i64 0), (Go.Value.int Go.IntKind.i64 0), (Go.Value.int Go.IntKind.i64 0), (Go.Value.slice none 0 0), (Go.Value.string { data := #[] }), (Go.Value.bool false), (Go.Value.string { data := #[] })]⟩ := ⟨⟨Tryz.t59, _, by kernel_rfl, rfl, rfl, rfl, by kernel_rfl⟩, ⟨_, Tryz.underlying59, by kernel_rfl, Tryz.stoodInHeld59, by kernel_rfl⟩, by kernel_rfl⟩
theorem tok60 : Wk.TOk Tryz.prog 60 ⟨.strct [(0, 1, 3), (1, 9, 59), (10, 1, 4)], 11, 120, [(Go.Value.int Go.IntKind.i64 0), (Go.Value.int Go.IntKind.u8 0), (Go.Value.int Go.IntKind.i64 0), (Go.Value.int Go.IntKind.i64 0), (Go.Value.int Go.IntKind.i64 0), (Go.Value.int Go.IntKind.i64 0), (Go.Value.slice none 0 0), (Go.Value.string { data := #[] }), (Go.Value.bool false), (Go.Value.string { data := #[] }), (Go.Value.bool false)]⟩ := ⟨⟨Tryz.t60, _, by kernel_rfl, rfl, rfl, rfl, by kernel_rfl⟩, ⟨_, Tryz.underlying60, by kernel_rfl, Tryz.stoodInHeld60, by kernel_rfl⟩, by kernel_rfl⟩
theorem tok61 : Wk.TOk Tryz.prog 61 ⟨.strct [(0, 1, 3), (1, 9, 59), (10, 1, 4)], 11, 120, [(Go.Value.int Go.IntKind.i64 0), (Go.Value.int Go.IntKind.u8 0), (Go.Value.int Go.IntKind.i64 0), (Go.Value.int Go.IntKind.i64 0), (Go.Value.int Go.IntKind.i64 0), (Go.Value.int Go.IntKind.i64 0), (Go.Value.slice none 0 0), (Go.Value.string { data := #[] }), (Go.Value.bool false), (Go.Value.string { data := #[] }), (Go.Value.bool false)]⟩ := ⟨⟨Tryz.t61, _, by kernel_rfl, rfl, rfl, rfl, by kernel_rfl⟩, ⟨_, Tryz.underlying61, by kernel_rfl, Tryz.stoodInHeld61, by kernel_rfl⟩, by kernel_rfl⟩
theorem tok63 : Wk.TOk Tryz.prog 63 ⟨.func, 1, 8, [Go.Value.nilFunc]⟩ := ⟨⟨Tryz.t63, _, by kernel_rfl, rfl, rfl, rfl, by kernel_rfl⟩, ⟨_, _, _, Tryz.underlying63⟩, by kernel_rfl⟩
theorem tok64 : Wk.TOk Tryz.prog 64 ⟨.func, 1, 8, [Go.Value.nilFunc]⟩ := ⟨⟨Tryz.t64, _, by kernel_rfl, rfl, rfl, rfl, by kernel_rfl⟩, ⟨_, _, _, Tryz.underlying64⟩, by kernel_rfl⟩
theorem tok65 : Wk.TOk Tryz.prog 65 ⟨.strct [(0, 1, 3), (1, 1, 3), (2, 1, 3), (3, 1, 3), (4, 1, 3), (5, 1, 9), (6, 1, 9)], 7, 72, [(Go.Value.int Go.IntKind.i64 0), (Go.Value.int Go.IntKind.i64 0), (Go.Value.int Go.IntKind.i64 0), (Go.Value.int Go.IntKind.i64 0), (Go.Value.int Go.IntKind.i64 0), (Go.Value.string { data := #[] }), (Go.Value.string { data := #[] })]⟩ := ⟨⟨Tryz.t65, _, by kernel_rfl, rfl, rfl, rfl, by kernel_rfl⟩, ⟨_, Tryz.underlying65, by kernel_rfl, Tryz.stoodInHeld65, by kernel_rfl⟩, by kernel_rfl⟩
theorem tok66 : Wk.TOk Tryz.prog 66 ⟨.strct [(0, 1, 3), (1, 1, 3), (2, 1, 3), (3, 1, 3), (4, 1, 3), (5, 1, 9), (6, 1, 9)], 7, 72, [(Go.Value.int Go.IntKind.i64 0), (Go.Value.int Go.IntKind.i64 0), (Go.Value.int Go.IntKind.i64 0), (Go.Value.int Go.IntKind.i64 0), (Go.Value.int Go.IntKind.i64 0), (Go.Value.string { data := #[] }), (Go.Value.string { data := #[] })]⟩ := ⟨⟨Tryz.t66, _, by kernel_rfl, rfl, rfl, rfl, by kernel_rfl⟩, ⟨_, Tryz.underlying66, by kernel_rfl, Tryz.stoodInHeld66, by kernel_rfl⟩, by kernel_rfl⟩
theorem tok68 : Wk.TOk Tryz.prog 68 ⟨.func, 1, 8, [Go.Value.nilFunc]⟩ := ⟨⟨Tryz.t68, _, by kernel_rfl, rfl, rfl, rfl, by kernel_rfl⟩, ⟨_, _, _, Tryz.underlying68⟩, by kernel_rfl⟩
theorem tok69 : Wk.TOk Tryz.prog 69 ⟨.func, 1, 8, [Go.Value.nilFunc]⟩ := ⟨⟨Tryz.t69, _, by kernel_rfl, rfl, rfl, rfl, by kernel_rfl⟩, ⟨_, _, _, Tryz.underlying69⟩, by kernel_rfl⟩
theorem tok70 : Wk.TOk Tryz.prog 70 ⟨.func, 1, 8, [Go.Value.nilFunc]⟩ := ⟨⟨Tryz.t70, _, by kernel_rfl, rfl, rfl, rfl, by kernel_rfl⟩, ⟨_, _, _, Tryz.underlying70⟩, by kernel_rfl⟩
theorem tok71 : Wk.TOk Tryz.prog 71 ⟨.func, 1, 8, [Go.Value.nilFunc]⟩ := ⟨⟨Tryz.t71, _, by kernel_rfl, rfl, rfl, rfl, by kernel_rfl⟩, ⟨_, _, _, Tryz.underlying71⟩, by kernel_rfl⟩
theorem tok72 : Wk.TOk Tryz.prog 72 ⟨.func, 1, 8, [Go.Value.nilFunc]⟩ := ⟨⟨Tryz.t72, _, by kernel_rfl, rfl, rfl, rfl, by kernel_rfl⟩, ⟨_, _, _, Tryz.underlying72⟩, by kernel_rfl⟩
theorem tok73 : Wk.TOk Tryz.prog 73 ⟨.func, 1, 8, [Go.Value.nilFunc]⟩ := ⟨⟨Tryz.t73, _, by kernel_rfl, rfl, rfl, rfl, by kernel_rfl⟩, ⟨_, _, _, Tryz.underlying73⟩, by kernel_rfl⟩
theorem tok75 : Wk.TOk Tryz.prog 75 ⟨.func, 1, 8, [Go.Value.nilFunc]⟩ := ⟨⟨Tryz.t75, _, by kernel_rfl, rfl, rfl, rfl, by kernel_rfl⟩, ⟨_, _, _, Tryz.underlying75⟩, by kernel_rfl⟩
theorem tok76 : Wk.TOk Tryz.prog 76 ⟨.strct [], 0, 0, []⟩ := ⟨⟨Tryz.t76, _, by kernel_rfl, rfl, rfl, rfl, by kernel_rfl⟩, ⟨_, Tryz.underlying76, by kernel_rfl, Tryz.stoodInHeld76, by kernel_rfl⟩, by kernel_rfl⟩
theorem tok77 : Wk.TOk Tryz.prog 77 ⟨.strct [], 0, 0, []⟩ := ⟨⟨Tryz.t77, _, by kernel_rfl, rfl, rfl, rfl, by kernel_rfl⟩, ⟨_, Tryz.underlying77, by kernel_rfl, Tryz.stoodInHeld77, by kernel_rfl⟩, by kernel_rfl⟩
theorem tok78 : Wk.TOk Tryz.prog 78 ⟨.iface, 1, 16, [Go.Value.nilIface]⟩ := ⟨⟨Tryz.t78, _, by kernel_rfl, rfl, rfl, rfl, by kernel_rfl⟩, ⟨_, Tryz.underlying78⟩, by kernel_rfl⟩
theorem tok79 : Wk.TOk Tryz.prog 79 ⟨.iface, 1, 16, [Go.Value.nilIface]⟩ := ⟨⟨Tryz.t79, _, by kernel_rfl, rfl, rfl, rfl, by kernel_rfl⟩, ⟨_, Tryz.underlying79⟩, by kernel_rfl⟩
theorem tok80 : Wk.TOk Tryz.prog 80 ⟨.strct [(0, 1, 79)], 1, 16, [Go.Value.nilIface]⟩ := ⟨⟨Tryz.t80, _, by kernel_rfl, rfl, rfl, rfl, by kernel_rfl⟩, ⟨_, Tryz.underlying80, by kernel_rfl, Tryz.stoodInHeld80, by kernel_rfl⟩, by kernel_rfl⟩
theorem tok81 : Wk.TOk Tryz.prog 81 ⟨.strct [(0, 1, 79)], 1, 16, [Go.Value.nilIface]⟩ := ⟨⟨Tryz.t81, _, by kernel_rfl, rfl, rfl, rfl, by kernel_rfl⟩, ⟨_, Tryz.underlying81, by kernel_rfl, Tryz.stoodInHeld81, by kernel_rfl⟩, by kernel_rfl⟩
theorem tok82 : Wk.TOk Tryz.prog 82 ⟨.strct [(0, 1, 9)], 1, 16, [(Go.Value.string { data := #[] })]⟩ := ⟨⟨Tryz.t82, _, by kernel_rfl, rfl, rfl, rfl, by kernel_rfl⟩, ⟨_, Tryz.underlying82, by kernel_rfl, Tryz.stoodInHeld82, by kernel_rfl⟩, by kernel_rfl⟩
theorem tok83 : Wk.TOk Tryz.prog 83 ⟨.strct [(0, 1, 9)], 1, 16, [(Go.Value.string { data := #[] })]⟩ := ⟨⟨Tryz.t83, _, by kernel_rfl, rfl, rfl, rfl, by kernel_rfl⟩, ⟨_, Tryz.underlying83, by kernel_rfl, Tryz.stoodInHeld83, by kernel_rfl⟩, by kernel_rfl⟩
theorem tok84 : Wk.TOk Tryz.prog 84 ⟨.func, 1, 8, [Go.Value.nilFunc]⟩ := ⟨⟨Tryz.t84, _, by kernel_rfl, rfl, rfl, rfl, by kernel_rfl⟩, ⟨_, _, _, Tryz.underlying84⟩, by kernel_rfl⟩
theorem tok85 : Wk.TOk Tryz.prog 85 ⟨.func, 1, 8, [Go.Value.nilFunc]⟩ := ⟨⟨Tryz.t85, _, by kernel_rfl, rfl, rfl, rfl, by kernel_rfl⟩, ⟨_, _, _, Tryz.underlying85⟩, by kernel_rfl⟩
theorem tok86 : Wk.TOk Tryz.prog 86 ⟨.func, 1, 8, [Go.Value.nilFunc]⟩ := ⟨⟨Tryz.t86, _, by kernel_rfl, rfl, rfl, rfl, by kernel_rfl⟩, ⟨_, _, _, Tryz.underlying86⟩, by kernel_rfl⟩
theorem tok87 : Wk.TOk Tryz.prog 87 ⟨.strct [(0, 1, 25)], 1, 8, [(Go.Value.pointer none)]⟩ := ⟨⟨Tryz.t87, _, by kernel_rfl, rfl, rfl, rfl, by kernel_rfl⟩, ⟨_, Tryz.underlying87, by kernel_rfl, Tryz.stoodInHeld87, by kernel_rfl⟩, by kernel_rfl⟩
theorem tok88 : Wk.TOk Tryz.prog 88 ⟨.strct [(0, 1, 25)], 1, 8, [(Go.Value.pointer none)]⟩ := ⟨⟨Tryz.t88, _, by kernel_rfl, rfl, rfl, rfl, by kernel_rfl⟩, ⟨_, Tryz.underlying88, by kernel_rfl, Tryz.stoodInHeld88, by kernel_rfl⟩, by kernel_rfl⟩
theorem tok89 : Wk.TOk Tryz.prog 89 ⟨.func, 1, 8, [Go.Value.nilFunc]⟩ := ⟨⟨Tryz.t89, _, by kernel_rfl, rfl, rfl, rfl, by kernel_rfl⟩, ⟨_, _, _, Tryz.underlying89⟩, by kernel_rfl⟩
theorem tok90 : Wk.TOk Tryz.prog 90 ⟨.strct [(0, 1, 88), (1, 1, 3), (2, 1, 22)], 3, 40, [(Go.Value.pointer none), (Go.Value.int Go.IntKind.i64 0), (Go.Value.slice none 0 0)]⟩ := ⟨⟨Tryz.t90, _, by kernel_rfl, rfl, rfl, rfl, by kernel_rfl⟩, ⟨_, Tryz.underlying90, by kernel_rfl, Tryz.stoodInHeld90, by kernel_rfl⟩, by kernel_rfl⟩
theorem tok91 : Wk.TOk Tryz.prog 91 ⟨.strct [(0, 1, 88), (1, 1, 3), (2, 1, 22)], 3, 40, [(Go.Value.pointer none), (Go.Value.int Go.IntKind.i64 0), (Go.Value.slice none 0 0)]⟩ := ⟨⟨Tryz.t91, _, by kernel_rfl, rfl, rfl, rfl, by kernel_rfl⟩, ⟨_, Tryz.underlying91, by kernel_rfl, Tryz.stoodInHeld91, by kernel_rfl⟩, by kernel_rfl⟩
theorem tok92 : Wk.TOk Tryz.prog 92 ⟨.map 9 161, 1, 8, [(Go.Value.map none)]⟩ := ⟨⟨Tryz.t92, _, by kernel_rfl, rfl, rfl, rfl, by kernel_rfl⟩, Tryz.underlying92, by kernel_rfl⟩
theorem tok93 : Wk.TOk Tryz.prog 93 ⟨.strct [(0, 1, 92)], 1, 8, [(Go.Value.map none)]⟩ := ⟨⟨Tryz.t93, _, by kernel_rfl, rfl, rfl, rfl, by kernel_rfl⟩, ⟨_, Tryz.underlying93, by kernel_rfl, Tryz.stoodInHeld93, by kernel_rfl⟩, by kernel_rfl⟩
theorem tok94 : Wk.TOk Tryz.prog 94 ⟨.strct [(0, 1, 92)], 1, 8, [(Go.Value.map none)]⟩ := ⟨⟨Tryz.t94, _, by kernel_rfl, rfl, rfl, rfl, by kernel_rfl⟩, ⟨_, Tryz.underlying94, by kernel_rfl, Tryz.stoodInHeld94, by kernel_rfl⟩, by kernel_rfl⟩
theorem tok95 : Wk.TOk Tryz.prog 95 ⟨.func, 1, 8, [Go.Value.nilFunc]⟩ := ⟨⟨Tryz.t95, _, by kernel_rfl, rfl, rfl, rfl, by kernel_rfl⟩, ⟨_, _, _, Tryz.underlying95⟩, by kernel_rfl⟩
theorem tok97 : Wk.TOk Tryz.prog 97 ⟨.func, 1, 8, [Go.Value.nilFunc]⟩ := ⟨⟨Tryz.t97, _, by kernel_rfl, rfl, rfl, rfl, by kernel_rfl⟩, ⟨_, _, _, Tryz.underlying97⟩, by kernel_rfl⟩
theorem tok98 : Wk.TOk Tryz.prog 98 ⟨.slice 52, 1, 24, [(Go.Value.slice none 0 0)]⟩ := ⟨⟨Tryz.t98, _, by kernel_rfl, rfl, rfl, rfl, by kernel_rfl⟩, Tryz.underlying98, by kernel_rfl⟩
theorem tok99 : Wk.TOk Tryz.prog 99 ⟨.func, 1, 8, [Go.Value.nilFunc]⟩ := ⟨⟨Tryz.t99, _, by kernel_rfl, rfl, rfl, rfl, by kernel_rfl⟩, ⟨_, _, _, Tryz.underlying99⟩, by kernel_rfl⟩
theorem tok100 : Wk.TOk Tryz.prog 100 ⟨.func, 1, 8, [Go.Value.nilFunc]⟩ := ⟨⟨Tryz.t100, _, by kernel_rfl, rfl, rfl, rfl, by kernel_rfl⟩, ⟨_, _, _, Tryz.underlying100⟩, by kernel_rfl⟩
theorem tok101 : Wk.TOk Tryz.prog 101 ⟨.func, 1, 8, [Go.Value.nilFunc]⟩ := ⟨⟨Tryz.t101, _, by kernel_rfl, rfl, rfl, rfl, by kernel_rfl⟩, ⟨_, _, _, Tryz.underlying101⟩, by kernel_rfl⟩
theorem tok102 : Wk.TOk Tryz.prog 102 ⟨.func, 1, 8, [Go.Value.nilFunc]⟩ := ⟨⟨Tryz.t102, _, by kernel_rfl, rfl, rfl, rfl, by kernel_rfl⟩, ⟨_, _, _, Tryz.underlying102⟩, by kernel_rfl⟩
theorem tok103 : Wk.TOk Tryz.prog 103 ⟨.func, 1, 8, [Go.Value.nilFunc]⟩ := ⟨⟨Tryz.t103, _, by kernel_rfl, rfl, rfl, rfl, by kernel_rfl⟩, ⟨_, _, _, Tryz.underlying103⟩, by kernel_rfl⟩
theorem tok104 : Wk.TOk Tryz.prog 104 ⟨.func, 1, 8, [Go.Value.nilFunc]⟩ := ⟨⟨Tryz.t104, _, by kernel_rfl, rfl, rfl, rfl, by kernel_rfl⟩, ⟨_, _, _, Tryz.underlying104⟩, by kernel_rfl⟩
theorem tok105 : Wk.TOk Tryz.prog 105 ⟨.func, 1, 8, [Go.Value.nilFunc]⟩ := ⟨⟨Tryz.t105, _, by kernel_rfl, rfl, rfl, rfl, by kernel_rfl⟩, ⟨_, _, _, Tryz.underlying105⟩, by kernel_rfl⟩
theorem tok106 : Wk.TOk Tryz.prog 106 ⟨.func, 1, 8, [Go.Value.nilFunc]⟩ := ⟨⟨Tryz.t106, _, by kernel_rfl, rfl, rfl, rfl, by kernel_rfl⟩, ⟨_, _, _, Tryz.underlying106⟩, by kernel_rfl⟩
theorem tok107 : Wk.TOk Tryz.prog 107 ⟨.ptr 179, 1, 8, [(Go.Value.pointer none)]⟩ := ⟨⟨Tryz.t107, _, by kernel_rfl, rfl, rfl, rfl, by kernel_rfl⟩, Tryz.underlying107, by kernel_rfl⟩
theorem tok109 : Wk.TOk Tryz.prog 109 ⟨.func, 1, 8, [Go.Value.nilFunc]⟩ := ⟨⟨Tryz.t109, _, by kernel_rfl, rfl, rfl, rfl, by kernel_rfl⟩, ⟨_, _, _, Tryz.underlying109⟩, by kernel_rfl⟩
theorem tok110 : Wk.TOk Tryz.prog 110 ⟨.map 3 114, 1, 8, [(Go.Value.map none)]⟩ := ⟨⟨Tryz.t110, _, by kernel_rfl, rfl, rfl, rfl, by kernel_rfl⟩, Tryz.underlying110, by kernel_rfl⟩
theorem tok111 : Wk.TOk Tryz.prog 111 ⟨.strct [(0, 1, 25), (1, 1, 3), (2, 1, 3), (3, 1, 110)], 4, 32, [(Go.Value.pointer none), (Go.Value.int Go.IntKind.i64 0), (Go.Value.int Go.IntKind.i64 0), (Go.Value.map none)]⟩ := ⟨⟨Tryz.t111, _, by kernel_rfl, rfl, rfl, rfl, by kernel_rfl⟩, ⟨_, Tryz.underlying111, by kernel_rfl, Tryz.stoodInHeld111, by kernel_rfl⟩, by kernel_rfl⟩
theorem tok112 : Wk.TOk Tryz.prog 112 ⟨.strct [(0, 1, 25), (1, 1, 3), (2, 1, 3), (3, 1, 110)], 4, 32, [(Go.Value.pointer none), (Go.Value.int Go.IntKind.i64 0), (Go.Value.int Go.IntKind.i64 0), (Go.Value.map none)]⟩ := ⟨⟨Tryz.t112, _, by kernel_rfl, rfl, rfl, rfl, by kernel_rfl⟩, ⟨_, Tryz.underlying112, by kernel_rfl, Tryz.stoodInHeld112, by kernel_rfl⟩, by kernel_rfl⟩
theorem tok113 : Wk.TOk Tryz.prog 113 ⟨.strct [(0, 1, 107)], 1, 8, [(Go.Value.pointer none)]⟩ := ⟨⟨Tryz.t113, _, by kernel_rfl, rfl, rfl, rfl, by kernel_rfl⟩, ⟨_, Tryz.underlying113, by kernel_rfl, Tryz.stoodInHeld113, by kernel_rfl⟩, by kernel_rfl⟩
theorem tok114 : Wk.TOk Tryz.prog 114 ⟨.strct [(0, 1, 107)], 1, 8, [(Go.Value.pointer none)]⟩ := ⟨⟨Tryz.t114, _, by kernel_rfl, rfl, rfl, rfl, by kernel_rfl⟩, ⟨_, Tryz.underlying114, by kernel_rfl, Tryz.stoodInHeld114, by kernel_rfl⟩, by kernel_rfl⟩
theorem tok116 : Wk.TOk Tryz.prog 116 ⟨.func, 1, 8, [Go.Value.nilFunc]⟩ := ⟨⟨Tryz.t116, _, by kernel_rfl, rfl, rfl, rfl, by kernel_rfl⟩, ⟨_, _, _, Tryz.underlying116⟩, by kernel_rfl⟩
theorem tok118 : Wk.TOk Tryz.prog 118 ⟨.func, 1, 8, [Go.Value.nilFunc]⟩ := ⟨⟨Tryz.t118, _, by kernel_rfl, rfl, rfl, rfl, by kernel_rfl⟩, ⟨_, _, _, Tryz.underlying118⟩, by kernel_rfl⟩
theorem tok119 : Wk.TOk Tryz.prog 119 ⟨.func, 1, 8, [Go.Value.nilFunc]⟩ := ⟨⟨Tryz.t119, _, by kernel_rfl, rfl, rfl, rfl, by kernel_rfl⟩, ⟨_, _, _, Tryz.underlying119⟩, by kernel_rfl⟩
theorem tok120 : Wk.TOk Tryz.prog 120 ⟨.strct [(0, 1, 119)], 1, 8, [Go.Value.nilFunc]⟩ := ⟨⟨Tryz.t120, _, by kernel_rfl, rfl, rfl, rfl, by kernel_rfl⟩, ⟨_, Tryz.underlying120, by kernel_rfl, Tryz.stoodInHeld120, by kernel_rfl⟩, by kernel_rfl⟩
theorem tok121 : Wk.TOk Tryz.prog 121 ⟨.strct [(0, 1, 119)], 1, 8, [Go.Value.nilFunc]⟩ := ⟨⟨Tryz.t121, _, by kernel_rfl, rfl, rfl, rfl, by kernel_rfl⟩, ⟨_, Tryz.underlying121, by kernel_rfl, Tryz.stoodInHeld121, by kernel_rfl⟩, by kernel_rfl⟩
theorem tok122 : Wk.TOk Tryz.prog 122 ⟨.func, 1, 8, [Go.Value.nilFunc]⟩ := ⟨⟨Tryz.t122, _, by kernel_rfl, rfl, rfl, rfl, by kernel_rfl⟩, ⟨_, _, _, Tryz.underlying122⟩, by kernel_rfl⟩
theorem tok123 : Wk.TOk Tryz.prog 123 ⟨.strct [], 0, 0, []⟩ := ⟨⟨Tryz.t123, _, by kernel_rfl, rfl, rfl, rfl, by kernel_rfl⟩, ⟨_, Tryz.underlying123, by kernel_rfl, Tryz.stoodInHeld123, by kernel_rfl⟩, by kernel_rfl⟩
theorem tok126 : Wk.TOk Tryz.prog 126 ⟨.func, 1, 8, [Go.Value.nilFunc]⟩ := ⟨⟨Tryz.t126, _, by kernel_rfl, rfl, rfl, rfl, by kernel_rfl⟩, ⟨_, _, _, Tryz.underlying126⟩, by kernel_rfl⟩
theorem tok127 : Wk.TOk Tryz.prog 127 ⟨.func, 1, 8, [Go.Value.nilFunc]⟩ := ⟨⟨Tryz.t127, _, by kernel_rfl, rfl, rfl, rfl, by kernel_rfl⟩, ⟨_, _, _, Tryz.underlying127⟩, by kernel_rfl⟩
theorem tok128 : Wk.TOk Tryz.prog 128 ⟨.func, 1, 8, [Go.Value.nilFunc]⟩ := ⟨⟨Tryz.t128, _, by kernel_rfl, rfl, rfl, rfl, by kernel_rfl⟩, ⟨_, _, _, Tryz.underlying128⟩, by kernel_rfl⟩
theorem tok129 : Wk.TOk Tryz.prog 129 ⟨.func, 1, 8, [Go.Value.nilFunc]⟩ := ⟨⟨Tryz.t129, _, by kernel_rfl, rfl, rfl, rfl, by kernel_rfl⟩, ⟨_, _, _, Tryz.underlying129⟩, by kernel_rfl⟩
theorem tok130 : Wk.TOk Tryz.prog 130 ⟨.func, 1, 8, [Go.Value.nilFunc]⟩ := ⟨⟨Tryz.t130, _, by kernel_rfl, rfl, rfl, rfl, by kernel_rfl⟩, ⟨_, _, _, Tryz.underlying130⟩, by kernel_rfl⟩
theorem tok131 : Wk.TOk Tryz.prog 131 ⟨.ptr 66, 1, 8, [(Go.Value.pointer none)]⟩ := ⟨⟨Tryz.t131, _, by kernel_rfl, rfl, rfl, rfl, by kernel_rfl⟩, Tryz.underlying131, by kernel_rfl⟩
theorem tok132 : Wk.TOk Tryz.prog 132 ⟨.ptr 3, 1, 8, [(Go.Value.pointer none)]⟩ := ⟨⟨Tryz.t132, _, by kernel_rfl, rfl, rfl, rfl, by kernel_rfl⟩, Tryz.underlying132, by kernel_rfl⟩
theorem tok133 : Wk.TOk Tryz.prog 133 ⟨.strct [(0, 1, 132), (1, 1, 3), (2, 1, 3)], 3, 24, [(Go.Value.pointer none), (Go.Value.int Go.IntKind.i64 0), (Go.Value.int Go.IntKind.i64 0)]⟩ := ⟨⟨Tryz.t133, _, by kernel_rfl, rfl, rfl, rfl, by kernel_rfl⟩, ⟨_, Tryz.underlying133, by kernel_rfl, Tryz.stoodInHeld133, by kernel_rfl⟩, by kernel_rfl⟩
theorem tok134 : Wk.TOk Tryz.prog 134 ⟨.strct [(0, 1, 132), (1, 1, 3), (2, 1, 3)], 3, 24, [(Go.Value.pointer none), (Go.Value.int Go.IntKind.i64 0), (Go.Value.int Go.IntKind.i64 0)]⟩ := ⟨⟨Tryz.t134, _, by kernel_rfl, rfl, rfl, rfl, by kernel_rfl⟩, ⟨_, Tryz.underlying134, by kernel_rfl, Tryz.stoodInHeld134, by kernel_rfl⟩, by kernel_rfl⟩
theorem tok136 : Wk.TOk Tryz.prog 136 ⟨.func, 1, 8, [Go.Value.nilFunc]⟩ := ⟨⟨Tryz.t136, _, by kernel_rfl, rfl, rfl, rfl, by kernel_rfl⟩, ⟨_, _, _, Tryz.underlying136⟩, by kernel_rfl⟩
theorem tok137 : Wk.TOk Tryz.prog 137 ⟨.func, 1, 8, [Go.Value.nilFunc]⟩ := ⟨⟨Tryz.t137, _, by kernel_rfl, rfl, rfl, rfl, by kernel_rfl⟩, ⟨_, _, _, Tryz.underlying137⟩, by kernel_rfl⟩
theorem tok138 : Wk.TOk Tryz.prog 138 ⟨.func, 1, 8, [Go.Value.nilFunc]⟩ := ⟨⟨Tryz.t138, _, by kernel_rfl, rfl, rfl, rfl, by kernel_rfl⟩, ⟨_, _, _, Tryz.underlying138⟩, by kernel_rfl⟩
theorem tok139 : Wk.TOk Tryz.prog 139 ⟨.func, 1, 8, [Go.Value.nilFunc]⟩ := ⟨⟨Tryz.t139, _, by kernel_rfl, rfl, rfl, rfl, by kernel_rfl⟩, ⟨_, _, _, Tryz.underlying139⟩, by kernel_rfl⟩
theorem tok140 : Wk.TOk Tryz.prog 140 ⟨.func, 1, 8, [Go.Value.nilFunc]⟩ := ⟨⟨Tryz.t140, _, by kernel_rfl, rfl, rfl, rfl, by kernel_rfl⟩, ⟨_, _, _, Tryz.underlying140⟩, by kernel_rfl⟩
theorem tok141 : Wk.TOk Tryz.prog 141 ⟨.func, 1, 8, [Go.Value.nilFunc]⟩ := ⟨⟨Tryz.t141, _, by kernel_rfl, rfl, rfl, rfl, by kernel_rfl⟩, ⟨_, _, _, Tryz.underlying141⟩, by kernel_rfl⟩
theorem tok142 : Wk.TOk Tryz.prog 142 ⟨.strct [(0, 1, 3), (1, 1, 3), (2, 1, 3)], 3, 24, [(Go.Value.int Go.IntKind.i64 0), (Go.Value.int Go.IntKind.i64 0), (Go.Value.int Go.IntKind.i64 0)]⟩ := ⟨⟨Tryz.t142, _, by kernel_rfl, rfl, rfl, rfl, by kernel_rfl⟩, ⟨_, Tryz.underlying142, by kernel_rfl, Tryz.stoodInHeld142, by kernel_rfl⟩, by kernel_rfl⟩
theorem tok143 : Wk.TOk Tryz.prog 143 ⟨.strct [(0, 1, 3), (1, 1, 3), (2, 1, 3)], 3, 24, [(Go.Value.int Go.IntKind.i64 0), (Go.Value.int Go.IntKind.i64 0), (Go.Value.int Go.IntKind.i64 0)]⟩ := ⟨⟨Tryz.t143, _, by kernel_rfl, rfl, rfl, rfl, by kernel_rfl⟩, ⟨_, Tryz.underlying143, by kernel_rfl, Tryz.stoodInHeld143, by kernel_rfl⟩, by kernel_rfl⟩
theorem tok144 : Wk.TOk Tryz.prog 144 ⟨.func, 1, 8, [Go.Value.nilFunc]⟩ := ⟨⟨Tryz.t144, _, by kernel_rfl, rfl, rfl, rfl, by kernel_rfl⟩, ⟨_, _, _, Tryz.underlying144⟩, by kernel_rfl⟩
theorem tok145 : Wk.TOk Tryz.prog 145 ⟨.func, 1, 8, [Go.Value.nilFunc]⟩ := ⟨⟨Tryz.t145, _, by kernel_rfl, rfl, rfl, rfl, by kernel_rfl⟩, ⟨_, _, _, Tryz.underlying145⟩, by kernel_rfl⟩
theorem tok146 : Wk.TOk Tryz.prog 146 ⟨.func, 1, 8, [Go.Value.nilFunc]⟩ := ⟨⟨Tryz.t146, _, by kernel_rfl, rfl, rfl, rfl, by kernel_rfl⟩, ⟨_, _, _, Tryz.underlying146⟩, by kernel_rfl⟩
theorem tok147 : Wk.TOk Tryz.prog 147 ⟨.func, 1, 8, [Go.Value.nilFunc]⟩ := ⟨⟨Tryz.t147, _, by kernel_rfl, rfl, rfl, rfl, by kernel_rfl⟩, ⟨_, _, _, Tryz.underlying147⟩, by kernel_rfl⟩
theorem tok148 : Wk.TOk Tryz.prog 148 ⟨.func, 1, 8, [Go.Value.nilFunc]⟩ := ⟨⟨Tryz.t148, _, by kernel_rfl, rfl, rfl, rfl, by kernel_rfl⟩, ⟨_, _, _, Tryz.underlying148⟩, by kernel_rfl⟩
theorem tok149 : Wk.TOk Tryz.prog 149 ⟨.func, 1, 8, [Go.Value.nilFunc]⟩ := ⟨⟨Tryz.t149, _, by kernel_rfl, rfl, rfl, rfl, by kernel_rfl⟩, ⟨_, _, _, Tryz.underlying149⟩, by kernel_rfl⟩
theorem tok150 : Wk.TOk Tryz.prog 150 ⟨.func, 1, 8, [Go.Value.nilFunc]⟩ := ⟨⟨Tryz.t150, _, by kernel_rfl, rfl, rfl, rfl, by kernel_rfl⟩, ⟨_, _, _, Tryz.underlying150⟩, by kernel_rfl⟩
theorem tok151 : Wk.TOk Tryz.prog 151 ⟨.func, 1, 8, [Go.Value.nilFunc]⟩ := ⟨⟨Tryz.t151, _, by kernel_rfl, rfl, rfl, rfl, by kernel_rfl⟩, ⟨_, _, _, Tryz.underlying151⟩, by kernel_rfl⟩
theorem tok152 : Wk.TOk Tryz.prog 152 ⟨.func, 1, 8, [Go.Value.nilFunc]⟩ := ⟨⟨Tryz.t152, _, by kernel_rfl, rfl, rfl, rfl, by kernel_rfl⟩, ⟨_, _, _, Tryz.underlying152⟩, by kernel_rfl⟩
theorem tok154 : Wk.TOk Tryz.prog 154 ⟨.func, 1, 8, [Go.Value.nilFunc]⟩ := ⟨⟨Tryz.t154, _, by kernel_rfl, rfl, rfl, rfl, by kernel_rfl⟩, ⟨_, _, _, Tryz.underlying154⟩, by kernel_rfl⟩
theorem tok155 : Wk.TOk Tryz.prog 155 ⟨.func, 1, 8, [Go.Value.nilFunc]⟩ := ⟨⟨Tryz.t155, _, by kernel_rfl, rfl, rfl, rfl, by kernel_rfl⟩, ⟨_, _, _, Tryz.underlying155⟩, by kernel_rfl⟩
theorem tok156 : Wk.TOk Tryz.prog 156 ⟨.func, 1, 8, [Go.Value.nilFunc]⟩ := ⟨⟨Tryz.t156, _, by kernel_rfl, rfl, rfl, rfl, by kernel_rfl⟩, ⟨_, _, _, Tryz.underlying156⟩, by kernel_rfl⟩
theorem tok158 : Wk.TOk Tryz.prog 158 ⟨.func, 1, 8, [Go.Value.nilFunc]⟩ := ⟨⟨Tryz.t158, _, by kernel_rfl, rfl, rfl, rfl, by kernel_rfl⟩, ⟨_, _, _, Tryz.underlying158⟩, by kernel_rfl⟩
theorem tok159 : Wk.TOk Tryz.prog 159 ⟨.func, 1, 8, [Go.Value.nilFunc]⟩ := ⟨⟨Tryz.t159, _, by kernel_rfl, rfl, rfl, rfl, by kernel_rfl⟩, ⟨_, _, _, Tryz.underlying159⟩, by kernel_rfl⟩
theorem tok160 : Wk.TOk Tryz.prog 160 ⟨.strct [(0, 1, 22), (1, 1, 4)], 2, 32, [(Go.Value.slice none 0 0), (Go.Value.bool false)]⟩ := ⟨⟨Tryz.t160, _, by kernel_rfl, rfl, rfl, rfl, by kernel_rfl⟩, ⟨_, Tryz.underlying160, by kernel_rfl, Tryz.stoodInHeld160, by kernel_rfl⟩, by kernel_rfl⟩
theorem tok161 : Wk.TOk Tryz.prog 161 ⟨.strct [(0, 1, 22), (1, 1, 4)], 2, 32, [(Go.Value.slice none 0 0), (Go.Value.bool false)]⟩ := ⟨⟨Tryz.t161, _, by kernel_rfl, rfl, rfl, rfl, by kernel_rfl⟩, ⟨_, Tryz.underlying161, by kernel_rfl, Tryz.stoodInHeld161, by kernel_rfl⟩, by kernel_rfl⟩
theorem tok163 : Wk.TOk Tryz.prog 163 ⟨.func, 1, 8, [Go.Value.nilFunc]⟩ := ⟨⟨Tryz.t163, _, by kernel_rfl, rfl, rfl, rfl, by kernel_rfl⟩, ⟨_, _, _, Tryz.underlying163⟩, by kernel_rfl⟩
theorem tok164 : Wk.TOk Tryz.prog 164 ⟨.func, 1, 8, [Go.Value.nilFunc]⟩ := ⟨⟨Tryz.t164, _, by kernel_rfl, rfl, rfl, rfl, by kernel_rfl⟩, ⟨_, _, _, Tryz.underlying164⟩, by kernel_rfl⟩
theorem tok165 : Wk.TOk Tryz.prog 165 ⟨.arr 3 9, 3, 48, [(Go.Value.string { data := #[] }), (Go.Value.string { data := #[] }), (Go.Value.string { data := #[] })]⟩ := ⟨⟨Tryz.t165, _, by kernel_rfl, rfl, rfl, rfl, by kernel_rfl⟩, Tryz.underlying165, by kernel_rfl⟩
theorem tok166 : Wk.TOk Tryz.prog 166 ⟨.slice 5, 1, 24, [(Go.Value.slice none 0 0)]⟩ := ⟨⟨Tryz.t166, _, by kernel_rfl, rfl, rfl, rfl, by kernel_rfl⟩, Tryz.underlying166, by kernel_rfl⟩
theorem tok167 : Wk.TOk Tryz.prog 167 ⟨.func, 1, 8, [Go.Value.nilFunc]⟩ := ⟨⟨Tryz.t167, _, by kernel_rfl, rfl, rfl, rfl, by kernel_rfl⟩, ⟨_, _, _, Tryz.underlying167⟩, by kernel_rfl⟩
theorem tok168 : Wk.TOk Tryz.prog 168 ⟨.func, 1, 8, [Go.Value.nilFunc]⟩ := ⟨⟨Tryz.t168, _, by kernel_rfl, rfl, rfl, rfl, by kernel_rfl⟩, ⟨_, _, _, Tryz.underlying168⟩, by kernel_rfl⟩
theorem tok169 : Wk.TOk Tryz.prog 169 ⟨.func, 1, 8, [Go.Value.nilFunc]⟩ := ⟨⟨Tryz.t169, _, by kernel_rfl, rfl, rfl, rfl, by kernel_rfl⟩, ⟨_, _, _, Tryz.underlying169⟩, by kernel_rfl⟩
theorem tok170 : Wk.TOk Tryz.prog 170 ⟨.func, 1, 8, [Go.Value.nilFunc]⟩ := ⟨⟨Tryz.t170, _, by kernel_rfl, rfl, rfl, rfl, by kernel_rfl⟩, ⟨_, _, _, Tryz.underlying170⟩, by kernel_rfl⟩
theorem tok172 : Wk.TOk Tryz.prog 172 ⟨.func, 1, 8, [Go.Value.nilFunc]⟩ := ⟨⟨Tryz.t172, _, by kernel_rfl, rfl, rfl, rfl, by kernel_rfl⟩, ⟨_, _, _, Tryz.underlying172⟩, by kernel_rfl⟩
theorem tok173 : Wk.TOk Tryz.prog 173 ⟨.func, 1, 8, [Go.Value.nilFunc]⟩ := ⟨⟨Tryz.t173, _, by kernel_rfl, rfl, rfl, rfl, by kernel_rfl⟩, ⟨_, _, _, Tryz.underlying173⟩, by kernel_rfl⟩
theorem tok174 : Wk.TOk Tryz.prog 174 ⟨.func, 1, 8, [Go.Value.nilFunc]⟩ := ⟨⟨Tryz.t174, _, by kernel_rfl, rfl, rfl, rfl, by kernel_rfl⟩, ⟨_, _, _, Tryz.underlying174⟩, by kernel_rfl⟩
theorem tok175 : Wk.TOk Tryz.prog 175 ⟨.func, 1, 8, [Go.Value.nilFunc]⟩ := ⟨⟨Tryz.t175, _, by kernel_rfl, rfl, rfl, rfl, by kernel_rfl⟩, ⟨_, _, _, Tryz.underlying175⟩, by kernel_rfl⟩
theorem tok176 : Wk.TOk Tryz.prog 176 ⟨.ptr 229, 1, 8, [(Go.Value.pointer none)]⟩ := ⟨⟨Tryz.t176, _, by kernel_rfl, rfl, rfl, rfl, by kernel_rfl⟩, Tryz.underlying176, by kernel_rfl⟩
theorem tok177 : Wk.TOk Tryz.prog 177 ⟨.func, 1, 8, [Go.Value.nilFunc]⟩ := ⟨⟨Tryz.t177, _, by kernel_rfl, rfl, rfl, rfl, by kernel_rfl⟩, ⟨_, _, _, Tryz.underlying177⟩, by kernel_rfl⟩
theorem tok178 : Wk.TOk Tryz.prog 178 ⟨.strct [(0, 1, 176), (1, 1, 3), (2, 1, 3), (3, 1, 3)], 4, 32, [(Go.Value.pointer none), (Go.Value.int Go.IntKind.i64 0), (Go.Value.int Go.IntKind.i64 0), (Go.Value.int Go.IntKind.i64 0)]⟩ := ⟨⟨Tryz.t178, _, by kernel_rfl, rfl, rfl, rfl, by kernel_rfl⟩, ⟨_, Tryz.underlying178, by kernel_rfl, Tryz.stoodInHeld178, by kernel_rfl⟩, by kernel_rfl⟩
theorem tok179 : Wk.TOk Tryz.prog 179 ⟨.strct [(0, 1, 176), (1, 1, 3), (2, 1, 3), (3, 1, 3)], 4, 32, [(Go.Value.pointer none), (Go.Value.int Go.IntKind.i64 0), (Go.Value.int Go.IntKind.i64 0), (Go.Value.int Go.IntKind.i64 0)]⟩ := ⟨⟨Tryz.t179, _, by kernel_rfl, rfl, rfl, rfl, by kernel_rfl⟩, ⟨_, Tryz.underlying179, by kernel_rfl, Tryz.stoodInHeld179, by kernel_rfl⟩, by kernel_rfl⟩
theorem tok180 : Wk.TOk Tryz.prog 180 ⟨.func, 1, 8, [Go.Value.nilFunc]⟩ := ⟨⟨Tryz.t180, _, by kernel_rfl, rfl, rfl, rfl, by kernel_rfl⟩, ⟨_, _, _, Tryz.underlying180⟩, by kernel_rfl⟩
theorem tok181 : Wk.TOk Tryz.prog 181 ⟨.func, 1, 8, [Go.Value.nilFunc]⟩ := ⟨⟨Tryz.t181, _, by kernel_rfl, rfl, rfl, rfl, by kernel_rfl⟩, ⟨_, _, _, Tryz.underlying181⟩, by kernel_rfl⟩
theorem tok182 : Wk.TOk Tryz.prog 182 ⟨.func, 1, 8, [Go.Value.nilFunc]⟩ := ⟨⟨Tryz.t182, _, by kernel_rfl, rfl, rfl, rfl, by kernel_rfl⟩, ⟨_, _, _, Tryz.underlying182⟩, by kernel_rfl⟩
theorem tok183 : Wk.TOk Tryz.prog 183 ⟨.func, 1, 8, [Go.Value.nilFunc]⟩ := ⟨⟨Tryz.t183, _, by kernel_rfl, rfl, rfl, rfl, by kernel_rfl⟩, ⟨_, _, _, Tryz.underlying183⟩, by kernel_rfl⟩
theorem tok184 : Wk.TOk Tryz.prog 184 ⟨.func, 1, 8, [Go.Value.nilFunc]⟩ := ⟨⟨Tryz.t184, _, by kernel_rfl, rfl, rfl, rfl, by kernel_rfl⟩, ⟨_, _, _, Tryz.underlying184⟩, by kernel_rfl⟩
theorem tok185 : Wk.TOk Tryz.prog 185 ⟨.func, 1, 8, [Go.Value.nilFunc]⟩ := ⟨⟨Tryz.t185, _, by kernel_rfl, rfl, rfl, rfl, by kernel_rfl⟩, ⟨_, _, _, Tryz.underlying185⟩, by kernel_rfl⟩
theorem tok186 : Wk.TOk Tryz.prog 186 ⟨.func, 1, 8, [Go.Value.nilFunc]⟩ := ⟨⟨Tryz.t186, _, by kernel_rfl, rfl, rfl, rfl, by kernel_rfl⟩, ⟨_, _, _, Tryz.underlying186⟩, by kernel_rfl⟩
theorem tok187 : Wk.TOk Tryz.prog 187 ⟨.func, 1, 8, [Go.Value.nilFunc]⟩ := ⟨⟨Tryz.t187, _, by kernel_rfl, rfl, rfl, rfl, by kernel_rfl⟩, ⟨_, _, _, Tryz.underlying187⟩, by kernel_rfl⟩
theorem tok188 : Wk.TOk Tryz.prog 188 ⟨.func, 1, 8, [Go.Value.nilFunc]⟩ := ⟨⟨Tryz.t188, _, by kernel_rfl, rfl, rfl, rfl, by kernel_rfl⟩, ⟨_, _, _, Tryz.underlying188⟩, by kernel_rfl⟩
theorem tok189 : Wk.TOk Tryz.prog 189 ⟨.slice 134, 1, 24, [(Go.Value.slice none 0 0)]⟩ := ⟨⟨Tryz.t189, _, by kernel_rfl, rfl, rfl, rfl, by kernel_rfl⟩, Tryz.underlying189, by kernel_rfl⟩
theorem tok190 : Wk.TOk Tryz.prog 190 ⟨.func, 1, 8, [Go.Value.nilFunc]⟩ := ⟨⟨Tryz.t190, _, by kernel_rfl, rfl, rfl, rfl, by kernel_rfl⟩, ⟨_, _, _, Tryz.underlying190⟩, by kernel_rfl⟩
theorem tok191 : Wk.TOk Tryz.prog 191 ⟨.int Go.IntKind.u64, 1, 8, [(Go.Value.int Go.IntKind.u64 0)]⟩ := ⟨⟨Tryz.t191, _, by kernel_rfl, rfl, rfl, rfl, by kernel_rfl⟩, Tryz.underlying191, by kernel_rfl⟩
theorem tok193 : Wk.TOk Tryz.prog 193 ⟨.func, 1, 8, [Go.Value.nilFunc]⟩ := ⟨⟨Tryz.t193, _, by kernel_rfl, rfl, rfl, rfl, by kernel_rfl⟩, ⟨_, _, _, Tryz.underlying193⟩, by kernel_rfl⟩
theorem tok194 : Wk.TOk Tryz.prog 194 ⟨.func, 1, 8, [Go.Value.nilFunc]⟩ := ⟨⟨Tryz.t194, _, by kernel_rfl, rfl, rfl, rfl, by kernel_rfl⟩, ⟨_, _, _, Tryz.underlying194⟩, by kernel_rfl⟩
theorem tok195 : Wk.TOk Tryz.prog 195 ⟨.slice 143, 1, 24, [(Go.Value.slice none 0 0)]⟩ := ⟨⟨Tryz.t195, _, by kernel_rfl, rfl, rfl, rfl, by kernel_rfl⟩, Tryz.underlying195, by kernel_rfl⟩
theorem tok196 : Wk.TOk Tryz.prog 196 ⟨.func, 1, 8, [Go.Value.nilFunc]⟩ := ⟨⟨Tryz.t196, _, by kernel_rfl, rfl, rfl, rfl, by kernel_rfl⟩, ⟨_, _, _, Tryz.underlying196⟩, by kernel_rfl⟩
theorem tok197 : Wk.TOk Tryz.prog 197 ⟨.func, 1, 8, [Go.Value.nilFunc]⟩ := ⟨⟨Tryz.t197, _, by kernel_rfl, rfl, rfl, rfl, by kernel_rfl⟩, ⟨_, _, _, Tryz.underlying197⟩, by kernel_rfl⟩
theorem tok198 : Wk.TOk Tryz.prog 198 ⟨.func, 1, 8, [Go.Value.nilFunc]⟩ := ⟨⟨Tryz.t198, _, by kernel_rfl, rfl, rfl, rfl, by kernel_rfl⟩, ⟨_, _, _, Tryz.underlying198⟩, by kernel_rfl⟩
theorem tok199 : Wk.TOk Tryz.prog 199 ⟨.func, 1, 8, [Go.Value.nilFunc]⟩ := ⟨⟨Tryz.t199, _, by kernel_rfl, rfl, rfl, rfl, by kernel_rfl⟩, ⟨_, _, _, Tryz.underlying199⟩, by kernel_rfl⟩
theorem tok200 : Wk.TOk Tryz.prog 200 ⟨.strct [(0, 1, 26)], 1, 8, [(Go.Value.int Go.IntKind.i64 0)]⟩ := ⟨⟨Tryz.t200, _, by kernel_rfl, rfl, rfl, rfl, by kernel_rfl⟩, ⟨_, Tryz.underlying200, by kernel_rfl, Tryz.stoodInHeld200, by kernel_rfl⟩, by kernel_rfl⟩
theorem tok201 : Wk.TOk Tryz.prog 201 ⟨.strct [(0, 1, 26)], 1, 8, [(Go.Value.int Go.IntKind.i64 0)]⟩ := ⟨⟨Tryz.t201, _, by kernel_rfl, rfl, rfl, rfl, by kernel_rfl⟩, ⟨_, Tryz.underlying201, by kernel_rfl, Tryz.stoodInHeld201, by kernel_rfl⟩, by kernel_rfl⟩
theorem tok203 : Wk.TOk Tryz.prog 203 ⟨.func, 1, 8, [Go.Value.nilFunc]⟩ := ⟨⟨Tryz.t203, _, by kernel_rfl, rfl, rfl, rfl, by kernel_rfl⟩, ⟨_, _, _, Tryz.underlying203⟩, by kernel_rfl⟩
theorem tok204 : Wk.TOk Tryz.prog 204 ⟨.func, 1, 8, [Go.Value.nilFunc]⟩ := ⟨⟨Tryz.t204, _, by kernel_rfl, rfl, rfl, rfl, by kernel_rfl⟩, ⟨_, _, _, Tryz.underlying204⟩, by kernel_rfl⟩
theorem tok205 : Wk.TOk Tryz.prog 205 ⟨.func, 1, 8, [Go.Value.nilFunc]⟩ := ⟨⟨Tryz.t205, _, by kernel_rfl, rfl, rfl, rfl, by kernel_rfl⟩, ⟨_, _, _, Tryz.underlying205⟩, by kernel_rfl⟩
theorem tok206 : Wk.TOk Tryz.prog 206 ⟨.func, 1, 8, [Go.Value.nilFunc]⟩ := ⟨⟨Tryz.t206, _, by kernel_rfl, rfl, rfl, rfl, by kernel_rfl⟩, ⟨_, _, _, Tryz.underlying206⟩, by kernel_rfl⟩
theorem tok207 : Wk.TOk Tryz.prog 207 ⟨.func, 1, 8, [Go.Value.nilFunc]⟩ := ⟨⟨Tryz.t207, _, by kernel_rfl, rfl, rfl, rfl, by kernel_rfl⟩, ⟨_, _, _, Tryz.underlying207⟩, by kernel_rfl⟩
theorem tok208 : Wk.TOk Tryz.prog 208 ⟨.func, 1, 8, [Go.Value.nilFunc]⟩ := ⟨⟨Tryz.t208, _, by kernel_rfl, rfl, rfl, rfl, by kernel_rfl⟩, ⟨_, _, _, Tryz.underlying208⟩, by kernel_rfl⟩
theorem tok209 : Wk.TOk Tryz.prog 209 ⟨.func, 1, 8, [Go.Value.nilFunc]⟩ := ⟨⟨Tryz.t209, _, by kernel_rfl, rfl, rfl, rfl, by kernel_rfl⟩, ⟨_, _, _, Tryz.underlying209⟩, by kernel_rfl⟩
theorem tok211 : Wk.TOk Tryz.prog 211 ⟨.func, 1, 8, [Go.Value.nilFunc]⟩ := ⟨⟨Tryz.t211, _, by kernel_rfl, rfl, rfl, rfl, by kernel_rfl⟩, ⟨_, _, _, Tryz.underlying211⟩, by kernel_rfl⟩
theorem tok212 : Wk.TOk Tryz.prog 212 ⟨.func, 1, 8, [Go.Value.nilFunc]⟩ := ⟨⟨Tryz.t212, _, by kernel_rfl, rfl, rfl, rfl, by kernel_rfl⟩, ⟨_, _, _, Tryz.underlying212⟩, by kernel_rfl⟩
theorem tok213 : Wk.TOk Tryz.prog 213 ⟨.map 3 3, 1, 8, [(Go.Value.map none)]⟩ := ⟨⟨Tryz.t213, _, by kernel_rfl, rfl, rfl, rfl, by kernel_rfl⟩, Tryz.underlying213, by kernel_rfl⟩
theorem tok215 : Wk.TOk Tryz.prog 215 ⟨.func, 1, 8, [Go.Value.nilFunc]⟩ := ⟨⟨Tryz.t215, _, by kernel_rfl, rfl, rfl, rfl, by kernel_rfl⟩, ⟨_, _, _, Tryz.underlying215⟩, by kernel_rfl⟩
theorem tok216 : Wk.TOk Tryz.prog 216 ⟨.func, 1, 8, [Go.Value.nilFunc]⟩ := ⟨⟨Tryz.t216, _, by kernel_rfl, rfl, rfl, rfl, by kernel_rfl⟩, ⟨_, _, _, Tryz.underlying216⟩, by kernel_rfl⟩
theorem tok217 : Wk.TOk Tryz.prog 217 ⟨.func, 1, 8, [Go.Value.nilFunc]⟩ := ⟨⟨Tryz.t217, _, by kernel_rfl, rfl, rfl, rfl, by kernel_rfl⟩, ⟨_, _, _, Tryz.underlying217⟩, by kernel_rfl⟩
theorem tok218 : Wk.TOk Tryz.prog 218 ⟨.func, 1, 8, [Go.Value.nilFunc]⟩ := ⟨⟨Tryz.t218, _, by kernel_rfl, rfl, rfl, rfl, by kernel_rfl⟩, ⟨_, _, _, Tryz.underlying218⟩, by kernel_rfl⟩
theorem tok219 : Wk.TOk Tryz.prog 219 ⟨.func, 1, 8, [Go.Value.nilFunc]⟩ := ⟨⟨Tryz.t219, _, by kernel_rfl, rfl, rfl, rfl, by kernel_rfl⟩, ⟨_, _, _, Tryz.underlying219⟩, by kernel_rfl⟩
theorem tok220 : Wk.TOk Tryz.prog 220 ⟨.func, 1, 8, [Go.Value.nilFunc]⟩ := ⟨⟨Tryz.t220, _, by kernel_rfl, rfl, rfl, rfl, by kernel_rfl⟩, ⟨_, _, _, Tryz.underlying220⟩, by kernel_rfl⟩
theorem tok221 : Wk.TOk Tryz.prog 221 ⟨.strct [(0, 1, 9), (1, 1, 3), (2, 1, 3), (3, 1, 218), (4, 1, 219), (5, 1, 220)], 6, 56, [(Go.Value.string { data := #[] }), (Go.Value.int Go.IntKind.i64 0), (Go.Value.int Go.IntKind.i64 0), Go.Value.nilFunc, Go.Value.nilFunc, Go.Value.nilFunc]⟩ := ⟨⟨Tryz.t221, _, by kernel_rfl, rfl, rfl, rfl, by kernel_rfl⟩, ⟨_, Tryz.underlying221, by kernel_rfl, Tryz.stoodInHeld221, by kernel_rfl⟩, by kernel_rfl⟩
theorem tok222 : Wk.TOk Tryz.prog 222 ⟨.strct [(0, 1, 9), (1, 1, 3), (2, 1, 3), (3, 1, 218), (4, 1, 219), (5, 1, 220)], 6, 56, [(Go.Value.string { data := #[] }), (Go.Value.int Go.IntKind.i64 0), (Go.Value.int Go.IntKind.i64 0), Go.Value.nilFunc, Go.Value.nilFunc, Go.Value.nilFunc]⟩ := ⟨⟨Tryz.t222, _, by kernel_rfl, rfl, rfl, rfl, by kernel_rfl⟩, ⟨_, Tryz.underlying222, by kernel_rfl, Tryz.stoodInHeld222, by kernel_rfl⟩, by kernel_rfl⟩
theorem tok223 : Wk.TOk Tryz.prog 223 ⟨.map 5 222, 1, 8, [(Go.Value.map none)]⟩ := ⟨⟨Tryz.t223, _, by kernel_rfl, rfl, rfl, rfl, by kernel_rfl⟩, Tryz.underlying223, by kernel_rfl⟩
theorem tok224 : Wk.TOk Tryz.prog 224 ⟨.func, 1, 8, [Go.Value.nilFunc]⟩ := ⟨⟨Tryz.t224, _, by kernel_rfl, rfl, rfl, rfl, by kernel_rfl⟩, ⟨_, _, _, Tryz.underlying224⟩, by kernel_rfl⟩
theorem tok225 : Wk.TOk Tryz.prog 225 ⟨.slice 3, 1, 24, [(Go.Value.slice none 0 0)]⟩ := ⟨⟨Tryz.t225, _, by kernel_rfl, rfl, rfl, rfl, by kernel_rfl⟩, Tryz.underlying225, by kernel_rfl⟩
theorem tok226 : Wk.TOk Tryz.prog 226 ⟨.strct [(0, 1, 3), (1, 1, 191)], 2, 16, [(Go.Value.int Go.IntKind.i64 0), (Go.Value.int Go.IntKind.u64 0)]⟩ := ⟨⟨Tryz.t226, _, by kernel_rfl, rfl, rfl, rfl, by kernel_rfl⟩, ⟨_, Tryz.underlying226, by kernel_rfl, Tryz.stoodInHeld226, by kernel_rfl⟩, by kernel_rfl⟩
theorem tok227 : Wk.TOk Tryz.prog 227 ⟨.strct [(0, 1, 3), (1, 1, 191)], 2, 16, [(Go.Value.int Go.IntKind.i64 0), (Go.Value.int Go.IntKind.u64 0)]⟩ := ⟨⟨Tryz.t227, _, by kernel_rfl, rfl, rfl, rfl, by kernel_rfl⟩, ⟨_, Tryz.underlying227, by kernel_rfl, Tryz.stoodInHeld227, by kernel_rfl⟩, by kernel_rfl⟩
theorem tok228 : Wk.TOk Tryz.prog 228 ⟨.strct [(0, 2, 227)], 2, 16, [(Go.Value.int Go.IntKind.i64 0), (Go.Value.int Go.IntKind.u64 0)]⟩ := ⟨⟨Tryz.t228, _, by kernel_rfl, rfl, rfl, rfl, by kernel_rfl⟩, ⟨_, Tryz.underlying228, by kernel_rfl, Tryz.stoodInHeld228, by kernel_rfl⟩, by kernel_rfl⟩
theorem tok229 : Wk.TOk Tryz.prog 229 ⟨.strct [(0, 2, 227)], 2, 16, [(Go.Value.int Go.IntKind.i64 0), (Go.Value.int Go.IntKind.u64 0)]⟩ := ⟨⟨Tryz.t229, _, by kernel_rfl, rfl, rfl, rfl, by kernel_rfl⟩, ⟨_, Tryz.underlying229, by kernel_rfl, Tryz.stoodInHeld229, by kernel_rfl⟩, by kernel_rfl⟩
theorem tok230 : Wk.TOk Tryz.prog 230 ⟨.strct [], 0, 0, []⟩ := ⟨⟨Tryz.t230, _, by kernel_rfl, rfl, rfl, rfl, by kernel_rfl⟩, ⟨_, Tryz.underlying230, by kernel_rfl, Tryz.stoodInHeld230, by kernel_rfl⟩, by kernel_rfl⟩
theorem tok232 : Wk.TOk Tryz.prog 232 ⟨.func, 1, 8, [Go.Value.nilFunc]⟩ := ⟨⟨Tryz.t232, _, by kernel_rfl, rfl, rfl, rfl, by kernel_rfl⟩, ⟨_, _, _, Tryz.underlying232⟩, by kernel_rfl⟩
theorem tok233 : Wk.TOk Tryz.prog 233 ⟨.func, 1, 8, [Go.Value.nilFunc]⟩ := ⟨⟨Tryz.t233, _, by kernel_rfl, rfl, rfl, rfl, by kernel_rfl⟩, ⟨_, _, _, Tryz.underlying233⟩, by kernel_rfl⟩
theorem tok234 : Wk.TOk Tryz.prog 234 ⟨.ptr 59, 1, 8, [(Go.Value.pointer none)]⟩ := ⟨⟨Tryz.t234, _, by kernel_rfl, rfl, rfl, rfl, by kernel_rfl⟩, Tryz.underlying234, by kernel_rfl⟩
theorem tok235 : Wk.TOk Tryz.prog 235 ⟨.func, 1, 8, [Go.Value.nilFunc]⟩ := ⟨⟨Tryz.t235, _, by kernel_rfl, rfl, rfl, rfl, by kernel_rfl⟩, ⟨_, _, _, Tryz.underlying235⟩, by kernel_rfl⟩
theorem tok236 : Wk.TOk Tryz.prog 236 ⟨.func, 1, 8, [Go.Value.nilFunc]⟩ := ⟨⟨Tryz.t236, _, by kernel_rfl, rfl, rfl, rfl, by kernel_rfl⟩, ⟨_, _, _, Tryz.underlying236⟩, by kernel_rfl⟩
theorem tok238 : Wk.TOk Tryz.prog 238 ⟨.func, 1, 8, [Go.Value.nilFunc]⟩ := ⟨⟨Tryz.t238, _, by kernel_rfl, rfl, rfl, rfl, by kernel_rfl⟩, ⟨_, _, _, Tryz.underlying238⟩, by kernel_rfl⟩
theorem tok240 : Wk.TOk Tryz.prog 240 ⟨.func, 1, 8, [Go.Value.nilFunc]⟩ := ⟨⟨Tryz.t240, _, by kernel_rfl, rfl, rfl, rfl, by kernel_rfl⟩, ⟨_, _, _, Tryz.underlying240⟩, by kernel_rfl⟩
theorem tok241 : Wk.TOk Tryz.prog 241 ⟨.int Go.IntKind.u64, 1, 8, [(Go.Value.int Go.IntKind.u64 0)]⟩ := ⟨⟨Tryz.t241, _, by kernel_rfl, rfl, rfl, rfl, by kernel_rfl⟩, Tryz.underlying241, by kernel_rfl⟩
theorem tok242 : Wk.TOk Tryz.prog 242 ⟨.ptr 244, 1, 8, [(Go.Value.pointer none)]⟩ := ⟨⟨Tryz.t242, _, by kernel_rfl, rfl, rfl, rfl, by kernel_rfl⟩, Tryz.underlying242, by kernel_rfl⟩
theorem tok243 : Wk.TOk Tryz.prog 243 ⟨.strct [(0, 1, 242), (1, 1, 166)], 2, 32, [(Go.Value.pointer none), (Go.Value.slice none 0 0)]⟩ := ⟨⟨Tryz.t243, _, by kernel_rfl, rfl, rfl, rfl, by kernel_rfl⟩, ⟨_, Tryz.underlying243, by kernel_rfl, Tryz.stoodInHeld243, by kernel_rfl⟩, by kernel_rfl⟩
theorem tok244 : Wk.TOk Tryz.prog 244 ⟨.strct [(0, 1, 242), (1, 1, 166)], 2, 32, [(Go.Value.pointer none), (Go.Value.slice none 0 0)]⟩ := ⟨⟨Tryz.t244, _, by kernel_rfl, rfl, rfl, rfl, by kernel_rfl⟩, ⟨_, Tryz.underlying244, by kernel_rfl, Tryz.stoodInHeld244, by kernel_rfl⟩, by kernel_rfl⟩
theorem tok245 : Wk.TOk Tryz.prog 245 ⟨.iface, 1, 16, [Go.Value.nilIface]⟩ := ⟨⟨Tryz.t245, _, by kernel_rfl, rfl, rfl, rfl, by kernel_rfl⟩, ⟨_, Tryz.underlying245⟩, by kernel_rfl⟩
theorem tok246 : Wk.TOk Tryz.prog 246 ⟨.iface, 1, 16, [Go.Value.nilIface]⟩ := ⟨⟨Tryz.t246, _, by kernel_rfl, rfl, rfl, rfl, by kernel_rfl⟩, ⟨_, Tryz.underlying246⟩, by kernel_rfl⟩
theorem tok248 : Wk.TOk Tryz.prog 248 ⟨.func, 1, 8, [Go.Value.nilFunc]⟩ := ⟨⟨Tryz.t248, _, by kernel_rfl, rfl, rfl, rfl, by kernel_rfl⟩, ⟨_, _, _, Tryz.underlying248⟩, by kernel_rfl⟩
theorem tok249 : Wk.TOk Tryz.prog 249 ⟨.func, 1, 8, [Go.Value.nilFunc]⟩ := ⟨⟨Tryz.t249, _, by kernel_rfl, rfl, rfl, rfl, by kernel_rfl⟩, ⟨_, _, _, Tryz.underlying249⟩, by kernel_rfl⟩
theorem tok250 : Wk.TOk Tryz.prog 250 ⟨.arr 9 5, 9, 9, [(Go.Value.int Go.IntKind.u8 0), (Go.Value.int Go.IntKind.u8 0), (Go.Value.int Go.IntKind.u8 0), (Go.Value.int Go.IntKind.u8 0), (Go.Value.int Go.IntKind.u8 0), (Go.Value.int Go.IntKind.u8 0), (Go.Value.int Go.IntKind.u8 0), (Go.Value.int Go.IntKind.u8 0), (Go.Value.int Go.IntKind.u8 0)]⟩ := ⟨⟨Tryz.t250, _, by kernel_rfl, rfl, rfl, rfl, by kernel_rfl⟩, Tryz.underlying250, by kernel_rfl⟩
theorem tok251 : Wk.TOk Tryz.prog 251 ⟨.func, 1, 8, [Go.Value.nilFunc]⟩ := ⟨⟨Tryz.t251, _, by kernel_rfl, rfl, rfl, rfl, by kernel_rfl⟩, ⟨_, _, _, Tryz.underlying251⟩, by kernel_rfl⟩
theorem tok252 : Wk.TOk Tryz.prog 252 ⟨.strct [(0, 1, 26)], 1, 8, [(Go.Value.int Go.IntKind.i64 0)]⟩ := ⟨⟨Tryz.t252, _, by kernel_rfl, rfl, rfl, rfl, by kernel_rfl⟩, ⟨_, Tryz.underlying252, by kernel_rfl, Tryz.stoodInHeld252, by kernel_rfl⟩, by kernel_rfl⟩
theorem tok253 : Wk.TOk Tryz.prog 253 ⟨.strct [(0, 1, 26)], 1, 8, [(Go.Value.int Go.IntKind.i64 0)]⟩ := ⟨⟨Tryz.t253, _, by kernel_rfl, rfl, rfl, rfl, by kernel_rfl⟩, ⟨_, Tryz.underlying253, by kernel_rfl, Tryz.stoodInHeld253, by kernel_rfl⟩, by kernel_rfl⟩
theorem tok255 : Wk.TOk Tryz.prog 255 ⟨.func, 1, 8, [Go.Value.nilFunc]⟩ := ⟨⟨Tryz.t255, _, by kernel_rfl, rfl, rfl, rfl, by kernel_rfl⟩, ⟨_, _, _, Tryz.underlying255⟩, by kernel_rfl⟩
theorem tok256 : Wk.TOk Tryz.prog 256 ⟨.func, 1, 8, [Go.Value.nilFunc]⟩ := ⟨⟨Tryz.t256, _, by kernel_rfl, rfl, rfl, rfl, by kernel_rfl⟩, ⟨_, _, _, Tryz.underlying256⟩, by kernel_rfl⟩
theorem tok257 : Wk.TOk Tryz.prog 257 ⟨.func, 1, 8, [Go.Value.nilFunc]⟩ := ⟨⟨Tryz.t257, _, by kernel_rfl, rfl, rfl, rfl, by kernel_rfl⟩, ⟨_, _, _, Tryz.underlying257⟩, by kernel_rfl⟩
theorem tok258 : Wk.TOk Tryz.prog 258 ⟨.func, 1, 8, [Go.Value.nilFunc]⟩ := ⟨⟨Tryz.t258, _, by kernel_rfl, rfl, rfl, rfl, by kernel_rfl⟩, ⟨_, _, _, Tryz.underlying258⟩, by kernel_rfl⟩
theorem tok260 : Wk.TOk Tryz.prog 260 ⟨.func, 1, 8, [Go.Value.nilFunc]⟩ := ⟨⟨Tryz.t260, _, by kernel_rfl, rfl, rfl, rfl, by kernel_rfl⟩, ⟨_, _, _, Tryz.underlying260⟩, by kernel_rfl⟩
theorem tok261 : Wk.TOk Tryz.prog 261 ⟨.func, 1, 8, [Go.Value.nilFunc]⟩ := ⟨⟨Tryz.t261, _, by kernel_rfl, rfl, rfl, rfl, by kernel_rfl⟩, ⟨_, _, _, Tryz.underlying261⟩, by kernel_rfl⟩
theorem tok262 : Wk.TOk Tryz.prog 262 ⟨.ptr 5, 1, 8, [(Go.Value.pointer none)]⟩ := ⟨⟨Tryz.t262, _, by kernel_rfl, rfl, rfl, rfl, by kernel_rfl⟩, Tryz.underlying262, by kernel_rfl⟩
theorem tok263 : Wk.TOk Tryz.prog 263 ⟨.func, 1, 8, [Go.Value.nilFunc]⟩ := ⟨⟨Tryz.t263, _, by kernel_rfl, rfl, rfl, rfl, by kernel_rfl⟩, ⟨_, _, _, Tryz.underlying263⟩, by kernel_rfl⟩
theorem tok264 : Wk.TOk Tryz.prog 264 ⟨.func, 1, 8, [Go.Value.nilFunc]⟩ := ⟨⟨Tryz.t264, _, by kernel_rfl, rfl, rfl, rfl, by kernel_rfl⟩, ⟨_, _, _, Tryz.underlying264⟩, by kernel_rfl⟩
theorem tok266 : Wk.TOk Tryz.prog 266 ⟨.func, 1, 8, [Go.Value.nilFunc]⟩ := ⟨⟨Tryz.t266, _, by kernel_rfl, rfl, rfl, rfl, by kernel_rfl⟩, ⟨_, _, _, Tryz.underlying266⟩, by kernel_rfl⟩
theorem tok267 : Wk.TOk Tryz.prog 267 ⟨.func, 1, 8, [Go.Value.nilFunc]⟩ := ⟨⟨Tryz.t267, _, by kernel_rfl, rfl, rfl, rfl, by kernel_rfl⟩, ⟨_, _, _, Tryz.underlying267⟩, by kernel_rfl⟩
theorem tok268 : Wk.TOk Tryz.prog 268 ⟨.func, 1, 8, [Go.Value.nilFunc]⟩ := ⟨⟨Tryz.t268, _, by kernel_rfl, rfl, rfl, rfl, by kernel_rfl⟩, ⟨_, _, _, Tryz.underlying268⟩, by kernel_rfl⟩
theorem tok269 : Wk.TOk Tryz.prog 269 ⟨.func, 1, 8, [Go.Value.nilFunc]⟩ := ⟨⟨Tryz.t269, _, by kernel_rfl, rfl, rfl, rfl, by kernel_rfl⟩, ⟨_, _, _, Tryz.underlying269⟩, by kernel_rfl⟩
theorem tok272 : Wk.TOk Tryz.prog 272 ⟨.arr 0 16, 0, 0, []⟩ := ⟨⟨Tryz.t272, _, by kernel_rfl, rfl, rfl, rfl, by kernel_rfl⟩, Tryz.underlying272, by kernel_rfl⟩
theorem tok275 : Wk.TOk Tryz.prog 275 ⟨.int Go.IntKind.u32, 1, 4, [(Go.Value.int Go.IntKind.u32 0)]⟩ := ⟨⟨Tryz.t275, _, by kernel_rfl, rfl, rfl, rfl, by kernel_rfl⟩, Tryz.underlying275, by kernel_rfl⟩
theorem tok276 : Wk.TOk Tryz.prog 276 ⟨.int Go.IntKind.u8, 1, 1, [(Go.Value.int Go.IntKind.u8 0)]⟩ := ⟨⟨Tryz.t276, _, by kernel_rfl, rfl, rfl, rfl, by kernel_rfl⟩, Tryz.underlying276, by kernel_rfl⟩
theorem tok277 : Wk.TOk Tryz.prog 277 ⟨.int Go.IntKind.u8, 1, 1, [(Go.Value.int Go.IntKind.u8 0)]⟩ := ⟨⟨Tryz.t277, _, by kernel_rfl, rfl, rfl, rfl, by kernel_rfl⟩, Tryz.underlying277, by kernel_rfl⟩
theorem tok278 : Wk.TOk Tryz.prog 278 ⟨.func, 1, 8, [Go.Value.nilFunc]⟩ := ⟨⟨Tryz.t278, _, by kernel_rfl, rfl, rfl, rfl, by kernel_rfl⟩, ⟨_, _, _, Tryz.underlying278⟩, by kernel_rfl⟩
theorem tok279 : Wk.TOk Tryz.prog 279 ⟨.int Go.IntKind.i32, 1, 4, [(Go.Value.int Go.IntKind.i32 0)]⟩ := ⟨⟨Tryz.t279, _, by kernel_rfl, rfl, rfl, rfl, by kernel_rfl⟩, Tryz.underlying279, by kernel_rfl⟩
theorem tok280 : Wk.TOk Tryz.prog 280 ⟨.int Go.IntKind.i32, 1, 4, [(Go.Value.int Go.IntKind.i32 0)]⟩ := ⟨⟨Tryz.t280, _, by kernel_rfl, rfl, rfl, rfl, by kernel_rfl⟩, Tryz.underlying280, by kernel_rfl⟩
theorem tok283 : Wk.TOk Tryz.prog 283 ⟨.func, 1, 8, [Go.Value.nilFunc]⟩ := ⟨⟨Tryz.t283, _, by kernel_rfl, rfl, rfl, rfl, by kernel_rfl⟩, ⟨_, _, _, Tryz.underlying283⟩, by kernel_rfl⟩
theorem tok284 : Wk.TOk Tryz.prog 284 ⟨.func, 1, 8, [Go.Value.nilFunc]⟩ := ⟨⟨Tryz.t284, _, by kernel_rfl, rfl, rfl, rfl, by kernel_rfl⟩, ⟨_, _, _, Tryz.underlying284⟩, by kernel_rfl⟩
theorem tok285 : Wk.TOk Tryz.prog 285 ⟨.func, 1, 8, [Go.Value.nilFunc]⟩ := ⟨⟨Tryz.t285, _, by kernel_rfl, rfl, rfl, rfl, by kernel_rfl⟩, ⟨_, _, _, Tryz.underlying285⟩, by kernel_rfl⟩
theorem tok286 : Wk.TOk Tryz.prog 286 ⟨.ptr 295, 1, 8, [(Go.Value.pointer none)]⟩ := ⟨⟨Tryz.t286, _, by kernel_rfl, rfl, rfl, rfl, by kernel_rfl⟩, Tryz.underlying286, by kernel_rfl⟩
theorem tok287 : Wk.TOk Tryz.prog 287 ⟨.func, 1, 8, [Go.Value.nilFunc]⟩ := ⟨⟨Tryz.t287, _, by kernel_rfl, rfl, rfl, rfl, by kernel_rfl⟩, ⟨_, _, _, Tryz.underlying287⟩, by kernel_rfl⟩
theorem tok288 : Wk.TOk Tryz.prog 288 ⟨.func, 1, 8, [Go.Value.nilFunc]⟩ := ⟨⟨Tryz.t288, _, by kernel_rfl, rfl, rfl, rfl, by kernel_rfl⟩, ⟨_, _, _, Tryz.underlying288⟩, by kernel_rfl⟩
theorem tok289 : Wk.TOk Tryz.prog 289 ⟨.func, 1, 8, [Go.Value.nilFunc]⟩ := ⟨⟨Tryz.t289, _, by kernel_rfl, rfl, rfl, rfl, by kernel_rfl⟩, ⟨_, _, _, Tryz.underlying289⟩, by kernel_rfl⟩
theorem tok290 : Wk.TOk Tryz.prog 290 ⟨.ptr 300, 1, 8, [(Go.Value.pointer none)]⟩ := ⟨⟨Tryz.t290, _, by kernel_rfl, rfl, rfl, rfl, by kernel_rfl⟩, Tryz.underlying290, by kernel_rfl⟩
theorem tok291 : Wk.TOk Tryz.prog 291 ⟨.strct [(0, 1, 290)], 1, 8, [(Go.Value.pointer none)]⟩ := ⟨⟨Tryz.t291, _, by kernel_rfl, rfl, rfl, rfl, by kernel_rfl⟩, ⟨_, Tryz.underlying291, by kernel_rfl, Tryz.stoodInHeld291, by kernel_rfl⟩, by kernel_rfl⟩
theorem tok292 : Wk.TOk Tryz.prog 292 ⟨.strct [(0, 1, 290)], 1, 8, [(Go.Value.pointer none)]⟩ := ⟨⟨Tryz.t292, _, by kernel_rfl, rfl, rfl, rfl, by kernel_rfl⟩, ⟨_, Tryz.underlying292, by kernel_rfl, Tryz.stoodInHeld292, by kernel_rfl⟩, by kernel_rfl⟩
theorem tok293 : Wk.TOk Tryz.prog 293 ⟨.func, 1, 8, [Go.Value.nilFunc]⟩ := ⟨⟨Tryz.t293, _, by kernel_rfl, rfl, rfl, rfl, by kernel_rfl⟩, ⟨_, _, _, Tryz.underlying293⟩, by kernel_rfl⟩
theorem tok294 : Wk.TOk Tryz.prog 294 ⟨.strct [(0, 1, 292), (1, 1, 292)], 2, 16, [(Go.Value.pointer none), (Go.Value.pointer none)]⟩ := ⟨⟨Tryz.t294, _, by kernel_rfl, rfl, rfl, rfl, by kernel_rfl⟩, ⟨_, Tryz.underlying294, by kernel_rfl, Tryz.stoodInHeld294, by kernel_rfl⟩, by kernel_rfl⟩
theorem tok295 : Wk.TOk Tryz.prog 295 ⟨.strct [(0, 1, 292), (1, 1, 292)], 2, 16, [(Go.Value.pointer none), (Go.Value.pointer none)]⟩ := ⟨⟨Tryz.t295, _, by kernel_rfl, rfl, rfl, rfl, by kernel_rfl⟩, ⟨_, Tryz.underlying295, by kernel_rfl, Tryz.stoodInHeld295, by kernel_rfl⟩, by kernel_rfl⟩
theorem tok296 : Wk.TOk Tryz.prog 296 ⟨.func, 1, 8, [Go.Value.nilFunc]⟩ := ⟨⟨Tryz.t296, _, by kernel_rfl, rfl, rfl, rfl, by kernel_rfl⟩, ⟨_, _, _, Tryz.underlying296⟩, by kernel_rfl⟩
theorem tok297 : Wk.TOk Tryz.prog 297 ⟨.arr 8 275, 8, 32, [(Go.Value.int Go.IntKind.u32 0), (Go.Value.int Go.IntKind.u32 0), (Go.Value.int Go.IntKind.u32 0), (Go.Value.int Go.IntKind.u32 0), (Go.Value.int Go.IntKind.u32 0), (Go.Value.int Go.IntKind.u32 0), (Go.Value.int Go.IntKind.u32 0), (Go.Value.int Go.IntKind.u32 0)]⟩ := ⟨⟨Tryz.t297, _, by kernel_rfl, rfl, rfl, rfl, by kernel_rfl⟩, Tryz.underlying297, by kernel_rfl⟩
theorem tok298 : Wk.TOk Tryz.prog 298 ⟨.arr 64 5, 64, 64, [(Go.Value.int Go.IntKind.u8 0), (Go.Value.int Go.IntKind.u8 0), (Go.Value.int Go.IntKind.u8 0), (Go.Value.int Go.IntKind.u8 0), (Go.Value.int Go.IntKind.u8 0), (Go.Value.int Go.IntKind.u8 0), (Go.Value.int Go.IntKind.u8 0), (Go.Value.int Go.IntKind.u8 0), (Go.Value.int Go.IntKind.u8 0), (Go.Value.int Go.IntKind.u8 0), (Go.Value.int Go.IntKind.u8 0), (Go.Value.int Go.IntKind.u8 0), (Go.Value.int Go.IntKind.u8 0), (Go.Value.int Go.IntKind.u8 0), (Go.Value.int Go.IntKind.u8 0), (Go.Value.int Go.IntKind.u8 0), (Go.Value.int Go.IntKind.u8 0), (Go.Value.int Go.IntKind.u8 0), (Go.Value.int Go.IntKind.u8 0), (Go.Value.int Go.IntKind.u8 0), (Go.Value.int Go.IntKind.u8 0), (Go.Value.int Go.IntKind.u8 0), (Go.Value.int Go.IntKind.u8 0), (Go.Value.int Go.IntKind.u8 0), (Go.Value.int Go.IntKind.u8 0), (Go.Value.int Go.IntKind.u8 0), (Go.Value.int Go.IntKind.u8 0), (Go.Value.int Go.IntKind.u8 0), (Go.Value.int Go.IntKind.u8 0), (Go.Value.int Go.IntKind.u8 0), (Go.Value.int Go.IntKind.u8 0), (Go.Value.int Go.IntKind.u8 0), (Go.Value.int Go.IntKind.u8 0), (Go.Value.int Go.IntKind.u8 0), (Go.Value.int Go.IntKind.u8 0), (Go.Value.int Go.IntKind.u8 0), (Go.Value.int Go.IntKind.u8 0), (Go.Value.int Go.IntKind.u8 0), (Go.Value.int Go.IntKind.u8 0), (Go.Value.int Go.IntKind.u8 0), (Go.Value.int Go.IntKind.u8 0), (Go.Value.int Go.IntKind.u8 0), (Go.Value.int Go.IntKind.u8 0), (Go.Value.int Go.IntKind.u8 0), (Go.Value.int Go.IntKind.u8 0), (Go.Value.int Go.IntKind.u8 0), (Go.Value.int Go.IntKind.u8 0), (Go.Value.int Go.IntKind.u8 0), (Go.Value.int Go.IntKind.u8 0), (Go.Value.int Go.IntKind.u8 0), (Go.Value.int Go.IntKind.u8 0), (Go.Value.int Go.IntKind.u8 0), (Go.Value.int Go.IntKind.u8 0), (Go.Value.int Go.IntKind.u8 0), (Go.Value.int Go.IntKind.u8 0), (Go.Value.int Go.IntKind.u8 0), (Go.Value.int Go.IntKind.u8 0), (Go.Value.int Go.IntKind.u8 0), (Go.Value.int Go.IntKind.u8 0), (Go.Value.int Go.IntKind.u8 0), (Go.Value.int Go.IntKind.u8 0), (Go.Value.int Go.IntKind.u8 0), (Go.Value.int Go.IntKind.u8 0), (Go.Value.int Go.IntKind.u8 0)]⟩ := ⟨⟨Tryz.t298, _, by kernel_rfl, rfl, rfl, rfl, by kernel_rfl⟩, Tryz.underlying298, by kernel_rfl⟩
theorem tok299 : Wk.TOk Tryz.prog 299 ⟨.strct [(0, 8, 297), (8, 64, 298), (72, 1, 3)], 73, 104, [(Go.Value.int Go.IntKind.u32 0), (Go.Value.int Go.IntKind.u32 0), (Go.Value.int Go.IntKind.u32 0), (Go.Value.int Go.IntKind.u32 0), (Go.Value.int Go.IntKind.u32 0), (Go.Value.int Go.IntKind.u32 0), (Go.Value.int Go.IntKind.u32 0), (Go.Value.int Go.IntKind.u32 0), (Go.Value.int Go.IntKind.u8 0), (Go.Value.int Go.IntKind.u8 0), (Go.Value.int Go.IntKind.u8 0), (Go.Value.int Go.IntKind.u8 0), (Go.Value.int Go.IntKind.u8 0), (Go.Value.int Go.IntKind.u8 0), (Go.Value.int Go.IntKind.u8 0), (Go.Value.int Go.IntKind.u8 0), (Go.Value.int Go.IntKind.u8 0), (Go.Value.int Go.IntKind.u8 0), (Go.Value.int Go.IntKind.u8 0), (Go.Value.int Go.IntKind.u8 0), (Go.Value.int Go.IntKind.u8 0), (Go.Value.int Go.IntKind.u8 0), (Go.Value.int Go.IntKind.u8 0), (Go.Value.int Go.IntKind.u8 0), (Go.Value.int Go.IntKind.u8 0), (Go.Value.int Go.IntKind.u8 0), (Go.Value.int Go.IntKind.u8 0), (Go.Value.int Go.IntKind.u8 0), (Go.Value.int Go.IntKind.u8 0), (Go.Value.int Go.IntKind.u8 0), (Go.Value.int Go.IntKind.u8 0), (Go.Value.int Go.IntKind.u8 0), (Go.Value.int Go.IntKind.u8 0), (Go.Value.int Go.IntKind.u8 0), (Go.Value.int Go.IntKind.u8 0), (Go.Value.int Go.IntKind.u8 0), (Go.Value.int Go.IntKind.u8 0), (Go.Value.int Go.IntKind.u8 0), (Go.Value.int Go.IntKind.u8 0), (Go.Value.int Go.IntKind.u8 0), (Go.Value.int Go.IntKind.u8 0), (Go.Value.int Go.IntKind.u8 0), (Go.Value.int Go.IntKind.u8 0), (Go.Value.int Go.IntKind.u8 0), (Go.Value.int Go.IntKind.u8 0), (Go.Value.int Go.IntKind.u8 0), (Go.Value.int Go.IntKind.u8 0), (Go.Value.int Go.IntKind.u8 0), (Go.Value.int Go.IntKind.u8 0), (Go.Value.int Go.IntKind.u8 0), (Go.Value.int Go.IntKind.u8 0), (Go.Value.int Go.IntKind.u8 0), (Go.Value.int Go.IntKind.u8 0), (Go.Value.int Go.IntKind.u8 0), (Go.Value.int Go.IntKind.u8 0), (Go.Value.int Go.IntKind.u8 0), (Go.Value.int Go.IntKind.u8 0), (Go.Value.int Go.IntKind.u8 0), (Go.Value.int Go.IntKind.u8 0), (Go.Value.int Go.IntKind.u8 0), (Go.Value.int Go.IntKind.u8 0), (Go.Value.int Go.IntKind.u8 0), (Go.Value.int Go.IntKind.u8 0), (Go.Value.int Go.IntKind.u8 0), (Go.Value.int Go.IntKind.u8 0), (Go.Value.int Go.IntKind.u8 0), (Go.Value.int Go.IntKind.u8 0), (Go.Value.int Go.IntKind.u8 0), (Go.Value.int Go.IntKind.u8 0), (Go.Value.int Go.IntKind.u8 0), (Go.Value.int Go.IntKind.u8 0), (Go.Value.int Go.IntKind.u8 0), (Go.Value.int Go.IntKind.i64 0)]⟩ := ⟨⟨Tryz.t299, _, by kernel_rfl, rfl, rfl, rfl, by kernel_rfl⟩, ⟨_, Tryz.underlying299, by kernel_rfl, Tryz.stoodInHeld299, by kernel_rfl⟩, by kernel_rfl⟩
theorem tok300 : Wk.TOk Tryz.prog 300 ⟨.strct [(0, 8, 297), (8, 64, 298), (72, 1, 3)], 73, 104, [(Go.Value.int Go.IntKind.u32 0), (Go.Value.int Go.IntKind.u32 0), (Go.Value.int Go.IntKind.u32 0), (Go.Value.int Go.IntKind.u32 0), (Go.Value.int Go.IntKind.u32 0), (Go.Value.int Go.IntKind.u32 0), (Go.Value.int Go.IntKind.u32 0), (Go.Value.int Go.IntKind.u32 0), (Go.Value.int Go.IntKind.u8 0), (Go.Value.int Go.IntKind.u8 0), (Go.Value.int Go.IntKind.u8 0), (Go.Value.int Go.IntKind.u8 0), (Go.Value.int Go.IntKind.u8 0), (Go.Value.int Go.IntKind.u8 0), (Go.Value.int Go.IntKind.u8 0), (Go.Value.int Go.IntKind.u8 0), (Go.Value.int Go.IntKind.u8 0), (Go.Value.int Go.IntKind.u8 0), (Go.Value.int Go.IntKind.u8 0), (Go.Value.int Go.IntKind.u8 0), (Go.Value.int Go.IntKind.u8 0), (Go.Value.int Go.IntKind.u8 0), (Go.Value.int Go.IntKind.u8 0), (Go.Value.int Go.IntKind.u8 0), (Go.Value.int Go.IntKind.u8 0), (Go.Value.int Go.IntKind.u8 0), (Go.Value.int Go.IntKind.u8 0), (Go.Value.int Go.IntKind.u8 0), (Go.Value.int Go.IntKind.u8 0), (Go.Value.int Go.IntKind.u8 0), (Go.Value.int Go.IntKind.u8 0), (Go.Value.int Go.IntKind.u8 0), (Go.Value.int Go.IntKind.u8 0), (Go.Value.int Go.IntKind.u8 0), (Go.Value.int Go.IntKind.u8 0), (Go.Value.int Go.IntKind.u8 0), (Go.Value.int Go.IntKind.u8 0), (Go.Value.int Go.IntKind.u8 0), (Go.Value.int Go.IntKind.u8 0), (Go.Value.int Go.IntKind.u8 0), (Go.Value.int Go.IntKind.u8 0), (Go.Value.int Go.IntKind.u8 0), (Go.Value.int Go.IntKind.u8 0), (Go.Value.int Go.IntKind.u8 0), (Go.Value.int Go.IntKind.u8 0), (Go.Value.int Go.IntKind.u8 0), (Go.Value.int Go.IntKind.u8 0), (Go.Value.int Go.IntKind.u8 0), (Go.Value.int Go.IntKind.u8 0), (Go.Value.int Go.IntKind.u8 0), (Go.Value.int Go.IntKind.u8 0), (Go.Value.int Go.IntKind.u8 0), (Go.Value.int Go.IntKind.u8 0), (Go.Value.int Go.IntKind.u8 0), (Go.Value.int Go.IntKind.u8 0), (Go.Value.int Go.IntKind.u8 0), (Go.Value.int Go.IntKind.u8 0), (Go.Value.int Go.IntKind.u8 0), (Go.Value.int Go.IntKind.u8 0), (Go.Value.int Go.IntKind.u8 0), (Go.Value.int Go.IntKind.u8 0), (Go.Value.int Go.IntKind.u8 0), (Go.Value.int Go.IntKind.u8 0), (Go.Value.int Go.IntKind.u8 0), (Go.Value.int Go.IntKind.u8 0), (Go.Value.int Go.IntKind.u8 0), (Go.Value.int Go.IntKind.u8 0), (Go.Value.int Go.IntKind.u8 0), (Go.Value.int Go.IntKind.u8 0), (Go.Value.int Go.IntKind.u8 0), (Go.Value.int Go.IntKind.u8 0), (Go.Value.int Go.IntKind.u8 0), (Go.Value.int Go.IntKind.i64 0)]⟩ := ⟨⟨Tryz.t300, _, by kernel_rfl, rfl, rfl, rfl, by kernel_rfl⟩, ⟨_, Tryz.underlying300, by kernel_rfl, Tryz.stoodInHeld300, by kernel_rfl⟩, by kernel_rfl⟩
theorem tok301 : Wk.TOk Tryz.prog 301 ⟨.arr 16 275, 16, 64, [(Go.Value.int Go.IntKind.u32 0), (Go.Value.int Go.IntKind.u32 0), (Go.Value.int Go.IntKind.u32 0), (Go.Value.int Go.IntKind.u32 0), (Go.Value.int Go.IntKind.u32 0), (Go.Value.int Go.IntKind.u32 0), (Go.Value.int Go.IntKind.u32 0), (Go.Value.int Go.IntKind.u32 0), (Go.Value.int Go.IntKind.u32 0), (Go.Value.int Go.IntKind.u32 0), (Go.Value.int Go.IntKind.u32 0), (Go.Value.int Go.IntKind.u32 0), (Go.Value.int Go.IntKind.u32 0), (Go.Value.int Go.IntKind.u32 0), (Go.Value.int Go.IntKind.u32 0), (Go.Value.int Go.IntKind.u32 0)]⟩ := ⟨⟨Tryz.t301, _, by kernel_rfl, rfl, rfl, rfl, by kernel_rfl⟩, Tryz.underlying301, by kernel_rfl⟩
theorem tok302 : Wk.TOk Tryz.prog 302 ⟨.arr 64 275, 64, 256, [(Go.Value.int Go.IntKind.u32 0), (Go.Value.int Go.IntKind.u32 0), (Go.Value.int Go.IntKind.u32 0), (Go.Value.int Go.IntKind.u32 0), (Go.Value.int Go.IntKind.u32 0), (Go.Value.int Go.IntKind.u32 0), (Go.Value.int Go.IntKind.u32 0), (Go.Value.int Go.IntKind.u32 0), (Go.Value.int Go.IntKind.u32 0), (Go.Value.int Go.IntKind.u32 0), (Go.Value.int Go.IntKind.u32 0), (Go.Value.int Go.IntKind.u32 0), (Go.Value.int Go.IntKind.u32 0), (Go.Value.int Go.IntKind.u32 0), (Go.Value.int Go.IntKind.u32 0), (Go.Value.int Go.IntKind.u32 0), (Go.Value.int Go.IntKind.u32 0), (Go.Value.int Go.IntKind.u32 0), (Go.Value.int Go.IntKind.u32 0), (Go.Value.int Go.IntKind.u32 0), (Go.Value.int Go.IntKind.u32 0), (Go.Value.int Go.IntKind.u32 0), (Go.Value.int Go.IntKind.u32 0), (Go.Value.int Go.IntKind.u32 0), (Go.Value.int Go.IntKind.u32 0), (Go.Value.int Go.IntKind.u32 0), (Go.Value.int Go.IntKind.u32 0), (Go.Value.int Go.IntKind.u32 0), (Go.Value.int Go.IntKind.u32 0), (Go.Value.int Go.IntKind.u32 0), (Go.Value.int Go.IntKind.u32 0), (Go.Value.int Go.IntKind.u32 0), (Go.Value.int Go.IntKind.u32 0), (Go.Value.int Go.IntKind.u32 0), (Go.Value.int Go.IntKind.u32 0), (Go.Value.int Go.IntKind.u32 0), (Go.Value.int Go.IntKind.u32 0), (Go.Value.int Go.IntKind.u32 0), (Go.Value.int Go.IntKind.u32 0), (Go.Value.int Go.IntKind.u32 0), (Go.Value.int Go.IntKind.u32 0), (Go.Value.int Go.IntKind.u32 0), (Go.Value.int Go.IntKind.u32 0), (Go.Value.int Go.IntKind.u32 0), (Go.Value.int Go.IntKind.u32 0), (Go.Value.int Go.IntKind.u32 0), (Go.Value.int Go.IntKind.u32 0), (Go.Value.int Go.IntKind.u32 0), (Go.Value.int Go.IntKind.u32 0), (Go.Value.int Go.IntKind.u32 0), (Go.Value.int Go.IntKind.u32 0), (Go.Value.int Go.IntKind.u32 0), (Go.Value.int Go.IntKind.u32 0), (Go.Value.int Go.IntKind.u32 0), (Go.Value.int Go.IntKind.u32 0), (Go.Value.int Go.IntKind.u32 0), (Go.Value.int Go.IntKind.u32 0), (Go.Value.int Go.IntKind.u32 0), (Go.Value.int Go.IntKind.u32 0), (Go.Value.int Go.IntKind.u32 0), (Go.Value.int Go.IntKind.u32 0), (Go.Value.int Go.IntKind.u32 0), (Go.Value.int Go.IntKind.u32 0), (Go.Value.int Go.IntKind.u32 0)]⟩ := ⟨⟨Tryz.t302, _, by kernel_rfl, rfl, rfl, rfl, by kernel_rfl⟩, Tryz.underlying302, by kernel_rfl⟩
theorem tok303 : Wk.TOk Tryz.prog 303 ⟨.func, 1, 8, [Go.Value.nilFunc]⟩ := ⟨⟨Tryz.t303, _, by kernel_rfl, rfl, rfl, rfl, by kernel_rfl⟩, ⟨_, _, _, Tryz.underlying303⟩, by kernel_rfl⟩
set_option maxRecDepth 20000 in
theorem okT : Wk.Ok Tryz.prog TT := Wk.ok_of TTl ⟨tok1, tok2, tok3, tok4, tok5, tok6, tok7, tok8, tok9, tok10, tok11, tok12, tok15, tok16, tok17, tok20, tok21, tok22, tok23, tok24, tok25, tok26, tok28, tok30, tok31, tok33, tok34, tok35, tok36, tok37, tok38, tok39, tok40, tok41, tok43, tok44, tok46, tok47, tok48, tok49, tok50, tok51, tok52, tok53, tok54, tok55, tok57, tok58, tok59, tok60, tok61, tok63, tok64, tok65, tok66, tok68, tok69, tok70, tok71, tok72, tok73, tok75, tok76, tok77, tok78, tok79, tok80, tok81, tok82, tok83, tok84, tok85, tok86, tok87, tok88, tok89, tok90, tok91, tok92, tok93, tok94, tok95, tok97, tok98, tok99, tok100, tok101, tok102, tok103, tok104, tok105, tok106, tok107, tok109, tok110, tok111, tok112, tok113, tok114, tok116, tok118, tok119, tok120, tok121, tok122, tok123, tok126, tok127, tok128, tok129, tok130, tok131, tok132, tok133, tok134, tok136, tok137, tok138, tok139, tok140, tok141, tok142, tok143, tok144, tok145, tok146, tok147, tok148, tok149, tok150, tok151, tok152, tok154, tok155, tok156, tok158, tok159, tok160, tok161, tok163, tok164, tok165, tok166, tok167, tok168, tok169, tok170, tok172, tok173, tok174, tok175, tok176, tok177, tok178, tok179, tok180, tok181, tok182, tok183, tok184, tok185, tok186, tok187, tok188, tok189, tok190, tok191, tok193, tok194, tok195, tok196, tok197, tok198, tok199, tok200, tok201, tok203, tok204, tok205, tok206, tok207, tok208, tok209, tok211, tok212, tok213, tok215, tok216, tok217, tok218, tok219, tok220, tok221, tok222, tok223, tok224, tok225, tok226, tok227, tok228, tok229, tok230, tok232, tok233, tok234, tok235, tok236, tok238, tok240, tok241, tok242, tok243, tok244, tok245, tok246, tok248, tok249, tok250, tok251, tok252, tok253, tok255, tok256, tok257, tok258, tok260, tok261, tok262, tok263, tok264, tok266, tok267, tok268, tok269, tok272, tok275, tok276, tok277, tok278, tok279, tok280, tok283, tok284, tok285, tok286, tok287, tok288, tok289, tok290, tok291, tok292, tok293, tok294, tok295, tok296, tok297, tok298, tok299, tok300, tok301, tok302, tok303, trivial⟩ (by kernel_rfl) (by kernel_rfl)
theorem fok5 : Wk.FOk Tryz.prog 5 := ⟨Tryz.f5, Tryz.func5, by kernel_rfl, by kernel_rfl⟩
theorem fok7 : Wk.FOk Tryz.prog 7 := ⟨Tryz.f7, Tryz.func7, by kernel_rfl, by kernel_rfl⟩
theorem fok10 : Wk.FOk Tryz.prog 10 := ⟨Tryz.f10, Tryz.func10, by kernel_rfl, by kernel_rfl⟩
theorem fok11 : Wk.FOk Tryz.prog 11 := ⟨Tryz.f11, Tryz.func11, by kernel_rfl, by kernel_rfl⟩
theorem fok13 : Wk.FOk Tryz.prog 13 := ⟨Tryz.f13, Tryz.func13, by kernel_rfl, by kernel_rfl⟩
theorem fok14 : Wk.FOk Tryz.prog 14 := ⟨Tryz.f14, Tryz.func14, by kernel_rfl, by kernel_rfl⟩
theorem fok15 : Wk.FOk Tryz.prog 15 := ⟨Tryz.f15, Tryz.func15, by kernel_rfl, by kernel_rfl⟩
theorem fok18 : Wk.FOk Tryz.prog 18 := ⟨Tryz.f18, Tryz.func18, by kernel_rfl, by kernel_rfl⟩
theorem fok19 : Wk.FOk Tryz.prog 19 := ⟨Tryz.f19, Tryz.func19, by kernel_rfl, by kernel_rfl⟩
theorem fok20 : Wk.FOk Tryz.prog 20 := ⟨Tryz.f20, Tryz.func20, by kernel_rfl, by kernel_rfl⟩
theorem fok21 : Wk.FOk Tryz.prog 21 := ⟨Tryz.f21, Tryz.func21, by kernel_rfl, by kernel_rfl⟩
theorem fok22 : Wk.FOk Tryz.prog 22 := ⟨Tryz.f22, Tryz.func22, by kernel_rfl, by kernel_rfl⟩
theorem fok23 : Wk.FOk Tryz.prog 23 := ⟨Tryz.f23, Tryz.func23, by kernel_rfl, by kernel_rfl⟩
theorem fok24 : Wk.FOk Tryz.prog 24 := ⟨Tryz.f24, Tryz.func24, by kernel_rfl, by kernel_rfl⟩
theorem fok30 : Wk.FOk Tryz.prog 30 := ⟨Tryz.f30, Tryz.func30, by kernel_rfl, by kernel_rfl⟩
theorem fok33 : Wk.FOk Tryz.prog 33 := ⟨Tryz.f33, Tryz.func33, by kernel_rfl, by kernel_rfl⟩
theorem fok34 : Wk.FOk Tryz.prog 34 := ⟨Tryz.f34, Tryz.func34, by kernel_rfl, by kernel_rfl⟩
theorem fok35 : Wk.FOk Tryz.prog 35 := ⟨Tryz.f35, Tryz.func35, by kernel_rfl, by kernel_rfl⟩
theorem fok36 : Wk.FOk Tryz.prog 36 := ⟨Tryz.f36, Tryz.func36, by kernel_rfl, by kernel_rfl⟩
theorem fok40 : Wk.FOk Tryz.prog 40 := ⟨Tryz.f40, Tryz.func40, by kernel_rfl, by kernel_rfl⟩
theorem fok41 : Wk.FOk Tryz.prog 41 := ⟨Tryz.f41, Tryz.func41, by kernel_rfl, by kernel_rfl⟩
theorem fok43 : Wk.FOk Tryz.prog 43 := ⟨Tryz.f43, Tryz.func43, by kernel_rfl, by kernel_rfl⟩
theorem fok44 : Wk.FOk Tryz.prog 44 := ⟨Tryz.f44, Tryz.func44, by kernel_rfl, by kernel_rfl⟩
theorem fok45 : Wk.FOk Tryz.prog 45 := ⟨Tryz.f45, Tryz.func45, by kernel_rfl, by kernel_rfl⟩
theorem fok46 : Wk.FOk Tryz.prog 46 := ⟨Tryz.f46, Tryz.func46, by kernel_rfl, by kernel_rfl⟩
theorem fok47 : Wk.FOk Tryz.prog 47 := ⟨Tryz.f47, Tryz.func47, by kernel_rfl, by kernel_rfl⟩
theorem fok48 : Wk.FOk Tryz.prog 48 := ⟨Tryz.f48, Tryz.func48, by kernel_rfl, by kernel_rfl⟩
theorem fok49 : Wk.FOk Tryz.prog 49 := ⟨Tryz.f49, Tryz.func49, by kernel_rfl, by kernel_rfl⟩
theorem fok50 : Wk.FOk Tryz.prog 50 := ⟨Tryz.f50, Tryz.func50, by kernel_rfl, by kernel_rfl⟩
theorem fok51 : Wk.FOk Tryz.prog 51 := ⟨Tryz.f51, Tryz.func51, by kernel_rfl, by kernel_rfl⟩
theorem fok52 : Wk.FOk Tryz.prog 52 := ⟨Tryz.f52, Tryz.func52, by kernel_rfl, by kernel_rfl⟩
theorem fok53 : Wk.FOk Tryz.prog 53 := ⟨Tryz.f53, Tryz.func53, by kernel_rfl, by kernel_rfl⟩
theorem fok54 : Wk.FOk Tryz.prog 54 := ⟨Tryz.f54, Tryz.func54, by kernel_rfl, by kernel_rfl⟩
theorem fok55 : Wk.FOk Tryz.prog 55 := ⟨Tryz.f55, Tryz.func55, by kernel_rfl, by kernel_rfl⟩
theorem fok56 : Wk.FOk Tryz.prog 56 := ⟨Tryz.f56, Tryz.func56, by kernel_rfl, by kernel_rfl⟩
theorem fok57 : Wk.FOk Tryz.prog 57 := ⟨Tryz.f57, Tryz.func57, by kernel_rfl, by kernel_rfl⟩
theorem fok58 : Wk.FOk Tryz.prog 58 := ⟨Tryz.f58, Tryz.func58, by kernel_rfl, by kernel_rfl⟩
theorem fok59 : Wk.FOk Tryz.prog 59 := ⟨Tryz.f59, Tryz.func59, by kernel_rfl, by kernel_rfl⟩
theorem fok60 : Wk.FOk Tryz.prog 60 := ⟨Tryz.f60, Tryz.func60, by kernel_rfl, by kernel_rfl⟩
theorem fok61 : Wk.FOk Tryz.prog 61 := ⟨Tryz.f61, Tryz.func61, by kernel_rfl, by kernel_rfl⟩
theorem fok62 : Wk.FOk Tryz.prog 62 := ⟨Tryz.f62, Tryz.func62, by kernel_rfl, by kernel_rfl⟩
theorem fok63 : Wk.FOk Tryz.prog 63 := ⟨Tryz.f63, Tryz.func63, by kernel_rfl, by kernel_rfl⟩
theorem fok64 : Wk.FOk Tryz.prog 64 := ⟨Tryz.f64, Tryz.func64, by kernel_rfl, by kernel_rfl⟩
theorem fok65 : Wk.FOk Tryz.prog 65 := ⟨Tryz.f65, Tryz.func65, by kernel_rfl, by kernel_rfl⟩
theorem fok70 : Wk.FOk Tryz.prog 70 := ⟨Tryz.f70, Tryz.func70, by kernel_rfl, by kernel_rfl⟩
theorem fok71 : Wk.FOk Tryz.prog 71 := ⟨Tryz.f71, Tryz.func71, by kernel_rfl, by kernel_rfl⟩
theorem fok72 : Wk.FOk Tryz.prog 72 := ⟨Tryz.f72, Tryz.func72, by kernel_rfl, by kernel_rfl⟩
theorem fok74 : Wk.FOk Tryz.prog 74 := ⟨Tryz.f74, Tryz.func74, by kernel_rfl, by kernel_rfl⟩
theorem fok76 : Wk.FOk Tryz.prog 76 := ⟨Tryz.f76, Tryz.func76, by kernel_rfl, by kernel_rfl⟩
theorem fok77 : Wk.FOk Tryz.prog 77 := ⟨Tryz.f77, Tryz.func77, by kernel_rfl, by kernel_rfl⟩
theorem fok78 : Wk.FOk Tryz.prog 78 := ⟨Tryz.f78, Tryz.func78, by kernel_rfl, by kernel_rfl⟩
theorem fok82 : Wk.FOk Tryz.prog 82 := ⟨Tryz.f82, Tryz.func82, by kernel_rfl, by kernel_rfl⟩
theorem fok85 : Wk.FOk Tryz.prog 85 := ⟨Tryz.f85, Tryz.func85, by kernel_rfl, by kernel_rfl⟩
theorem fok86 : Wk.FOk Tryz.prog 86 := ⟨Tryz.f86, Tryz.func86, by kernel_rfl, by kernel_rfl⟩
theorem fok87 : Wk.FOk Tryz.prog 87 := ⟨Tryz.f87, Tryz.func87, by kernel_rfl, by kernel_rfl⟩
theorem fok88 : Wk.FOk Tryz.prog 88 := ⟨Tryz.f88, Tryz.func88, by kernel_rfl, by kernel_rfl⟩
theorem fok89 : Wk.FOk Tryz.prog 89 := ⟨Tryz.f89, Tryz.func89, by kernel_rfl, by kernel_rfl⟩
theorem fok90 : Wk.FOk Tryz.prog 90 := ⟨Tryz.f90, Tryz.func90, by kernel_rfl, by kernel_rfl⟩
theorem fok91 : Wk.FOk Tryz.prog 91 := ⟨Tryz.f91, Tryz.func91, by kernel_rfl, by kernel_rfl⟩
theorem fok92 : Wk.FOk Tryz.prog 92 := ⟨Tryz.f92, Tryz.func92, by kernel_rfl, by kernel_rfl⟩
theorem fok93 : Wk.FOk Tryz.prog 93 := ⟨Tryz.f93, Tryz.func93, by kernel_rfl, by kernel_rfl⟩
theorem fok94 : Wk.FOk Tryz.prog 94 := ⟨Tryz.f94, Tryz.func94, by kernel_rfl, by kernel_rfl⟩
theorem fok95 : Wk.FOk Tryz.prog 95 := ⟨Tryz.f95, Tryz.func95, by kernel_rfl, by kernel_rfl⟩
theorem fok96 : Wk.FOk Tryz.prog 96 := ⟨Tryz.f96, Tryz.func96, by kernel_rfl, by kernel_rfl⟩
theorem fok97 : Wk.FOk Tryz.prog 97 := ⟨Tryz.f97, Tryz.func97, by kernel_rfl, by kernel_rfl⟩
theorem fok98 : Wk.FOk Tryz.prog 98 := ⟨Tryz.f98, Tryz.func98, by kernel_rfl, by kernel_rfl⟩
theorem fok99 : Wk.FOk Tryz.prog 99 := ⟨Tryz.f99, Tryz.func99, by kernel_rfl, by kernel_rfl⟩
theorem fok100 : Wk.FOk Tryz.prog 100 := ⟨Tryz.f100, Tryz.func100, by kernel_rfl, by kernel_rfl⟩
theorem fok101 : Wk.FOk Tryz.prog 101 := ⟨Tryz.f101, Tryz.func101, by kernel_rfl, by kernel_rfl⟩
theorem fok102 : Wk.FOk Tryz.prog 102 := ⟨Tryz.f102, Tryz.func102, by kernel_rfl, by kernel_rfl⟩
theorem fok103 : Wk.FOk Tryz.prog 103 := ⟨Tryz.f103, Tryz.func103, by kernel_rfl, by kernel_rfl⟩
theorem fok104 : Wk.FOk Tryz.prog 104 := ⟨Tryz.f104, Tryz.func104, by kernel_rfl, by kernel_rfl⟩
theorem fok105 : Wk.FOk Tryz.prog 105 := ⟨Tryz.f105, Tryz.func105, by kernel_rfl, by kernel_rfl⟩
theorem fok106 : Wk.FOk Tryz.prog 106 := ⟨Tryz.f106, Tryz.func106, by kernel_rfl, by kernel_rfl⟩
theorem fok107 : Wk.FOk Tryz.prog 107 := ⟨Tryz.f107, Tryz.func107, by kernel_rfl, by kernel_rfl⟩
theorem fok108 : Wk.FOk Tryz.prog 108 := ⟨Tryz.f108, Tryz.func108, by kernel_rfl, by kernel_rfl⟩
theorem fok110 : Wk.FOk Tryz.prog 110 := ⟨Tryz.f110, Tryz.func110, by kernel_rfl, by kernel_rfl⟩
theorem fok111 : Wk.FOk Tryz.prog 111 := ⟨Tryz.f111, Tryz.func111, by kernel_rfl, by kernel_rfl⟩
theorem fok114 : Wk.FOk Tryz.prog 114 := ⟨Tryz.f114, Tryz.func114, by kernel_rfl, by kernel_rfl⟩
theorem fok117 : Wk.FOk Tryz.prog 117 := ⟨Tryz.f117, Tryz.func117, by kernel_rfl, by kernel_rfl⟩
theorem fok118 : Wk.FOk Tryz.prog 118 := ⟨Tryz.f118, Tryz.func118, by kernel_rfl, by kernel_rfl⟩
theorem fok119 : Wk.FOk Tryz.prog 119 := ⟨Tryz.f119, Tryz.func119, by kernel_rfl, by kernel_rfl⟩
theorem fok120 : Wk.FOk Tryz.prog 120 := ⟨Tryz.f120, Tryz.func120, by kernel_rfl, by kernel_rfl⟩
theorem fok121 : Wk.FOk Tryz.prog 121 := ⟨Tryz.f121, Tryz.func121, by kernel_rfl, by kernel_rfl⟩
theorem fok127 : Wk.FOk Tryz.prog 127 := ⟨Tryz.f127, Tryz.func127, by kernel_rfl, by kernel_rfl⟩
theorem fok129 : Wk.FOk Tryz.prog 129 := ⟨Tryz.f129, Tryz.func129, by kernel_rfl, by kernel_rfl⟩
theorem fok130 : Wk.FOk Tryz.prog 130 := ⟨Tryz.f130, Tryz.func130, by kernel_rfl, by kernel_rfl⟩
theorem fok131 : Wk.FOk Tryz.prog 131 := ⟨Tryz.f131, Tryz.func131, by kernel_rfl, by kernel_rfl⟩
theorem fok132 : Wk.FOk Tryz.prog 132 := ⟨Tryz.f132, Tryz.func132, by kernel_rfl, by kernel_rfl⟩
theorem fok133 : Wk.FOk Tryz.prog 133 := ⟨Tryz.f133, Tryz.func133, by kernel_rfl, by kernel_rfl⟩
theorem fok134 : Wk.FOk Tryz.prog 134 := ⟨Tryz.f134, Tryz.func134, by kernel_rfl, by kernel_rfl⟩
theorem fok135 : Wk.FOk Tryz.prog 135 := ⟨Tryz.f135, Tryz.func135, by kernel_rfl, by kernel_rfl⟩
theorem fok136 : Wk.FOk Tryz.prog 136 := ⟨Tryz.f136, Tryz.func136, by kernel_rfl, by kernel_rfl⟩
theorem fok137 : Wk.FOk Tryz.prog 137 := ⟨Tryz.f137, Tryz.func137, by kernel_rfl, by kernel_rfl⟩
theorem fok138 : Wk.FOk Tryz.prog 138 := ⟨Tryz.f138, Tryz.func138, by kernel_rfl, by kernel_rfl⟩
theorem fok139 : Wk.FOk Tryz.prog 139 := ⟨Tryz.f139, Tryz.func139, by kernel_rfl, by kernel_rfl⟩
theorem fok140 : Wk.FOk Tryz.prog 140 := ⟨Tryz.f140, Tryz.func140, by kernel_rfl, by kernel_rfl⟩
theorem fok141 : Wk.FOk Tryz.prog 141 := ⟨Tryz.f141, Tryz.func141, by kernel_rfl, by kernel_rfl⟩
theorem fok142 : Wk.FOk Tryz.prog 142 := ⟨Tryz.f142, Tryz.func142, by kernel_rfl, by kernel_rfl⟩
theorem fok143 : Wk.FOk Tryz.prog 143 := ⟨Tryz.f143, Tryz.func143, by kernel_rfl, by kernel_rfl⟩
theorem fok144 : Wk.FOk Tryz.prog 144 := ⟨Tryz.f144, Tryz.func144, by kernel_rfl, by kernel_rfl⟩
theorem fok148 : Wk.FOk Tryz.prog 148 := ⟨Tryz.f148, Tryz.func148, by kernel_rfl, by kernel_rfl⟩
theorem fok150 : Wk.FOk Tryz.prog 150 := ⟨Tryz.f150, Tryz.func150, by kernel_rfl, by kernel_rfl⟩
theorem fok151 : Wk.FOk Tryz.prog 151 := ⟨Tryz.f151, Tryz.func151, by kernel_rfl, by kernel_rfl⟩
theorem fok152 : Wk.FOk Tryz.prog 152 := ⟨Tryz.f152, Tryz.func152, by kernel_rfl, by kernel_rfl⟩
theorem fok153 : Wk.FOk Tryz.prog 153 := ⟨Tryz.f153, Tryz.func153, by kernel_rfl, by kernel_rfl⟩
theorem fok154 : Wk.FOk Tryz.prog 154 := ⟨Tryz.f154, Tryz.func154, by kernel_rfl, by kernel_rfl⟩
theorem fok155 : Wk.FOk Tryz.prog 155 := ⟨Tryz.f155, Tryz.func155, by kernel_rfl, by kernel_rfl⟩
theorem fok156 : Wk.FOk Tryz.prog 156 := ⟨Tryz.f156, Tryz.func156, by kernel_rfl, by kernel_rfl⟩
theorem fok157 : Wk.FOk Tryz.prog 157 := ⟨Tryz.f157, Tryz.func157, by kernel_rfl, by kernel_rfl⟩
theorem fok158 : Wk.FOk Tryz.prog 158 := ⟨Tryz.f158, Tryz.func158, by kernel_rfl, by kernel_rfl⟩
theorem fok159 : Wk.FOk Tryz.prog 159 := ⟨Tryz.f159, Tryz.func159, by kernel_rfl, by kernel_rfl⟩
theorem fok160 : Wk.FOk Tryz.prog 160 := ⟨Tryz.f160, Tryz.func160, by kernel_rfl, by kernel_rfl⟩
theorem fok161 : Wk.FOk Tryz.prog 161 := ⟨Tryz.f161, Tryz.func161, by kernel_rfl, by kernel_rfl⟩
theorem fok162 : Wk.FOk Tryz.prog 162 := ⟨Tryz.f162, Tryz.func162, by kernel_rfl, by kernel_rfl⟩
theorem fok163 : Wk.FOk Tryz.prog 163 := ⟨Tryz.f163, Tryz.func163, by kernel_rfl, by kernel_rfl⟩
theorem fok164 : Wk.FOk Tryz.prog 164 := ⟨Tryz.f164, Tryz.func164, by kernel_rfl, by kernel_rfl⟩
theorem fok165 : Wk.FOk Tryz.prog 165 := ⟨Tryz.f165, Tryz.func165, by kernel_rfl, by kernel_rfl⟩
theorem fok166 : Wk.FOk Tryz.prog 166 := ⟨Tryz.f166, Tryz.func166, by kernel_rfl, by kernel_rfl⟩
theorem fok168 : Wk.FOk Tryz.prog 168 := ⟨Tryz.f168, Tryz.func168, by kernel_rfl, by kernel_rfl⟩
theorem fok169 : Wk.FOk Tryz.prog 169 := ⟨Tryz.f169, Tryz.func169, by kernel_rfl, by kernel_rfl⟩
theorem fok170 : Wk.FOk Tryz.prog 170 := ⟨Tryz.f170, Tryz.func170, by kernel_rfl, by kernel_rfl⟩
theorem fok171 : Wk.FOk Tryz.prog 171 := ⟨Tryz.f171, Tryz.func171, by kernel_rfl, by kernel_rfl⟩
theorem fok173 : Wk.FOk Tryz.prog 173 := ⟨Tryz.f173, Tryz.func173, by kernel_rfl, by kernel_rfl⟩
theorem fok174 : Wk.FOk Tryz.prog 174 := ⟨Tryz.f174, Tryz.func174, by kernel_rfl, by kernel_rfl⟩
theorem fok196 : Wk.FOk Tryz.prog 196 := ⟨Tryz.f196, Tryz.func196, by kernel_rfl, by kernel_rfl⟩
theorem fok197 : Wk.FOk Tryz.prog 197 := ⟨Tryz.f197, Tryz.func197, by kernel_rfl, by kernel_rfl⟩
theorem fok198 : Wk.FOk Tryz.prog 198 := ⟨Tryz.f198, Tryz.func198, by kernel_rfl, by kernel_rfl⟩
theorem fok199 : Wk.FOk Tryz.prog 199 := ⟨Tryz.f199, Tryz.func199, by kernel_rfl, by kernel_rfl⟩
end Go.Proofs.YtcikecociiebkaaGreatDoor
