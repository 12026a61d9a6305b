/-
  The table of the types of this seat's program, for the walking layer: made by a program (mkseat.py).
-/
import Derived.Test.YtdflchgfhmjhbaaGreatDoorRows
import Derived.Test.YtdflchgfhmjhbaaGreatDoorQvGs
import Derived.KernelRfl
namespace Go.Proofs.YtdflchgfhmjhbaaGreatDoor
set_option maxRecDepth 20000
open Go
def TTl : List (Option Wk.TI) := [
  none,
  some ⟨.func, 1, 8, [.nilFunc]⟩,
  some ⟨.int .i64, 1, 8, [(.int .i64 0)]⟩,
  some ⟨.int .i64, 1, 8, [(.int .i64 0)]⟩,
  some ⟨.bool, 1, 1, [(.bool false)]⟩,
  some ⟨.int .u8, 1, 1, [(.int .u8 0)]⟩,
  some ⟨.int .u8, 1, 1, [(.int .u8 0)]⟩,
  some ⟨.strct [(0, 1, 2), (1, 1, 3), (2, 1, 4), (3, 1, 6)], 4, 24, [(.int .i64 0), (.int .i64 0), (.bool false), (.int .u8 0)]⟩,
  some ⟨.strct [(0, 1, 2), (1, 1, 3), (2, 1, 4), (3, 1, 6)], 4, 24, [(.int .i64 0), (.int .i64 0), (.bool false), (.int .u8 0)]⟩,
  some ⟨.string, 1, 16, [(.string { data := #[] })]⟩,
  some ⟨.string, 1, 16, [(.string { data := #[] })]⟩,
  some ⟨.string, 1, 16, [(.string { data := #[] })]⟩,
  some ⟨.int .u64, 1, 8, [(.int .u64 0)]⟩,
  none,
  none,
  some ⟨.ptr 262, 1, 8, [(.pointer none)]⟩,
  some ⟨.ptr 265, 1, 8, [(.pointer none)]⟩,
  some ⟨.ptr 273, 1, 8, [(.pointer none)]⟩,
  none,
  none,
  some ⟨.iface, 1, 16, [.nilIface]⟩,
  some ⟨.int .i32, 1, 4, [(.int .i32 0)]⟩,
  some ⟨.strct [(0, 1, 3), (1, 1, 3), (2, 1, 3)], 3, 24, [(.int .i64 0), (.int .i64 0), (.int .i64 0)]⟩,
  some ⟨.strct [(0, 1, 3), (1, 1, 3), (2, 1, 3)], 3, 24, [(.int .i64 0), (.int .i64 0), (.int .i64 0)]⟩,
  some ⟨.slice 84, 1, 24, [(.slice none 0 0)]⟩,
  some ⟨.slice 9, 1, 24, [(.slice none 0 0)]⟩,
  some ⟨.strct [(0, 3, 23), (3, 1, 3), (4, 1, 24), (5, 1, 25)], 6, 80, [(.int .i64 0), (.int .i64 0), (.int .i64 0), (.int .i64 0), (.slice none 0 0), (.slice none 0 0)]⟩,
  some ⟨.strct [(0, 3, 23), (3, 1, 3), (4, 1, 24), (5, 1, 25)], 6, 80, [(.int .i64 0), (.int .i64 0), (.int .i64 0), (.int .i64 0), (.slice none 0 0), (.slice none 0 0)]⟩,
  some ⟨.ptr 80, 1, 8, [(.pointer none)]⟩,
  some ⟨.int .i64, 1, 8, [(.int .i64 0)]⟩,
  none,
  some ⟨.func, 1, 8, [.nilFunc]⟩,
  some ⟨.func, 1, 8, [.nilFunc]⟩,
  some ⟨.func, 1, 8, [.nilFunc]⟩,
  some ⟨.func, 1, 8, [.nilFunc]⟩,
  none,
  some ⟨.func, 1, 8, [.nilFunc]⟩,
  some ⟨.ptr 97, 1, 8, [(.pointer none)]⟩,
  none,
  some ⟨.func, 1, 8, [.nilFunc]⟩,
  none,
  some ⟨.func, 1, 8, [.nilFunc]⟩,
  some ⟨.slice 45, 1, 24, [(.slice none 0 0)]⟩,
  some ⟨.func, 1, 8, [.nilFunc]⟩,
  some ⟨.strct [(0, 3, 23), (3, 1, 3), (4, 1, 24), (5, 1, 3)], 6, 64, [(.int .i64 0), (.int .i64 0), (.int .i64 0), (.int .i64 0), (.slice none 0 0), (.int .i64 0)]⟩,
  some ⟨.strct [(0, 3, 23), (3, 1, 3), (4, 1, 24), (5, 1, 3)], 6, 64, [(.int .i64 0), (.int .i64 0), (.int .i64 0), (.int .i64 0), (.slice none 0 0), (.int .i64 0)]⟩,
  some ⟨.func, 1, 8, [.nilFunc]⟩,
  none,
  some ⟨.func, 1, 8, [.nilFunc]⟩,
  some ⟨.func, 1, 8, [.nilFunc]⟩,
  some ⟨.func, 1, 8, [.nilFunc]⟩,
  some ⟨.slice 5, 1, 24, [(.slice none 0 0)]⟩,
  some ⟨.slice 59, 1, 24, [(.slice none 0 0)]⟩,
  some ⟨.ptr 118, 1, 8, [(.pointer none)]⟩,
  none,
  some ⟨.func, 1, 8, [.nilFunc]⟩,
  some ⟨.slice 3, 1, 24, [(.slice none 0 0)]⟩,
  some ⟨.func, 1, 8, [.nilFunc]⟩,
  some ⟨.strct [(0, 1, 5), (1, 3, 23), (4, 1, 3), (5, 1, 24), (6, 1, 9), (7, 1, 4), (8, 1, 9)], 9, 104, [(.int .u8 0), (.int .i64 0), (.int .i64 0), (.int .i64 0), (.int .i64 0), (.slice none 0 0), (.string { data := #[] }), (.bool false), (.string { data := #[] })]⟩,
  some ⟨.strct [(0, 1, 5), (1, 3, 23), (4, 1, 3), (5, 1, 24), (6, 1, 9), (7, 1, 4), (8, 1, 9)], 9, 104, [(.int .u8 0), (.int .i64 0), (.int .i64 0), (.int .i64 0), (.int .i64 0), (.slice none 0 0), (.string { data := #[] }), (.bool false), (.string { data := #[] })]⟩,
  some ⟨.func, 1, 8, [.nilFunc]⟩,
  some ⟨.strct [(0, 1, 3), (1, 9, 59), (10, 1, 4)], 11, 120, [(.int .i64 0), (.int .u8 0), (.int .i64 0), (.int .i64 0), (.int .i64 0), (.int .i64 0), (.slice none 0 0), (.string { data := #[] }), (.bool false), (.string { data := #[] }), (.bool false)]⟩,
  some ⟨.strct [(0, 1, 3), (1, 9, 59), (10, 1, 4)], 11, 120, [(.int .i64 0), (.int .u8 0), (.int .i64 0), (.int .i64 0), (.int .i64 0), (.int .i64 0), (.slice none 0 0), (.string { data := #[] }), (.bool false), (.string { data := #[] }), (.bool false)]⟩,
  none,
  some ⟨.func, 1, 8, [.nilFunc]⟩,
  some ⟨.func, 1, 8, [.nilFunc]⟩,
  some ⟨.func, 1, 8, [.nilFunc]⟩,
  some ⟨.func, 1, 8, [.nilFunc]⟩,
  some ⟨.strct [(0, 1, 5), (1, 1, 5), (2, 1, 5), (3, 1, 5), (4, 9, 59), (13, 1, 9)], 14, 128, [(.int .u8 0), (.int .u8 0), (.int .u8 0), (.int .u8 0), (.int .u8 0), (.int .i64 0), (.int .i64 0), (.int .i64 0), (.int .i64 0), (.slice none 0 0), (.string { data := #[] }), (.bool false), (.string { data := #[] }), (.string { data := #[] })]⟩,
  some ⟨.strct [(0, 1, 5), (1, 1, 5), (2, 1, 5), (3, 1, 5), (4, 9, 59), (13, 1, 9)], 14, 128, [(.int .u8 0), (.int .u8 0), (.int .u8 0), (.int .u8 0), (.int .u8 0), (.int .i64 0), (.int .i64 0), (.int .i64 0), (.int .i64 0), (.slice none 0 0), (.string { data := #[] }), (.bool false), (.string { data := #[] }), (.string { data := #[] })]⟩,
  some ⟨.slice 69, 1, 24, [(.slice none 0 0)]⟩,
  some ⟨.func, 1, 8, [.nilFunc]⟩,
  some ⟨.func, 1, 8, [.nilFunc]⟩,
  some ⟨.func, 1, 8, [.nilFunc]⟩,
  some ⟨.func, 1, 8, [.nilFunc]⟩,
  some ⟨.strct [], 0, 0, []⟩,
  some ⟨.strct [], 0, 0, []⟩,
  some ⟨.iface, 1, 16, [.nilIface]⟩,
  some ⟨.iface, 1, 16, [.nilIface]⟩,
  some ⟨.strct [(0, 1, 78)], 1, 16, [.nilIface]⟩,
  some ⟨.strct [(0, 1, 78)], 1, 16, [.nilIface]⟩,
  some ⟨.strct [(0, 1, 9)], 1, 16, [(.string { data := #[] })]⟩,
  some ⟨.strct [(0, 1, 9)], 1, 16, [(.string { data := #[] })]⟩,
  some ⟨.strct [(0, 1, 3), (1, 1, 9)], 2, 24, [(.int .i64 0), (.string { data := #[] })]⟩,
  some ⟨.strct [(0, 1, 3), (1, 1, 9)], 2, 24, [(.int .i64 0), (.string { data := #[] })]⟩,
  none,
  some ⟨.func, 1, 8, [.nilFunc]⟩,
  some ⟨.func, 1, 8, [.nilFunc]⟩,
  some ⟨.func, 1, 8, [.nilFunc]⟩,
  some ⟨.func, 1, 8, [.nilFunc]⟩,
  some ⟨.func, 1, 8, [.nilFunc]⟩,
  some ⟨.func, 1, 8, [.nilFunc]⟩,
  some ⟨.func, 1, 8, [.nilFunc]⟩,
  some ⟨.strct [(0, 1, 28)], 1, 8, [(.pointer none)]⟩,
  some ⟨.strct [(0, 1, 28)], 1, 8, [(.pointer none)]⟩,
  some ⟨.func, 1, 8, [.nilFunc]⟩,
  some ⟨.strct [(0, 1, 94), (1, 1, 3), (2, 1, 25)], 3, 40, [(.pointer none), (.int .i64 0), (.slice none 0 0)]⟩,
  some ⟨.strct [(0, 1, 94), (1, 1, 3), (2, 1, 25)], 3, 40, [(.pointer none), (.int .i64 0), (.slice none 0 0)]⟩,
  some ⟨.func, 1, 8, [.nilFunc]⟩,
  some ⟨.func, 1, 8, [.nilFunc]⟩,
  some ⟨.func, 1, 8, [.nilFunc]⟩,
  some ⟨.func, 1, 8, [.nilFunc]⟩,
  some ⟨.func, 1, 8, [.nilFunc]⟩,
  some ⟨.func, 1, 8, [.nilFunc]⟩,
  some ⟨.func, 1, 8, [.nilFunc]⟩,
  some ⟨.func, 1, 8, [.nilFunc]⟩,
  some ⟨.func, 1, 8, [.nilFunc]⟩,
  some ⟨.func, 1, 8, [.nilFunc]⟩,
  none,
  some ⟨.func, 1, 8, [.nilFunc]⟩,
  some ⟨.func, 1, 8, [.nilFunc]⟩,
  some ⟨.func, 1, 8, [.nilFunc]⟩,
  some ⟨.func, 1, 8, [.nilFunc]⟩,
  some ⟨.ptr 163, 1, 8, [(.pointer none)]⟩,
  none,
  some ⟨.func, 1, 8, [.nilFunc]⟩,
  some ⟨.map 3 120, 1, 8, [(.map none)]⟩,
  some ⟨.strct [(0, 1, 28), (1, 1, 3), (2, 1, 3), (3, 1, 116)], 4, 32, [(.pointer none), (.int .i64 0), (.int .i64 0), (.map none)]⟩,
  some ⟨.strct [(0, 1, 28), (1, 1, 3), (2, 1, 3), (3, 1, 116)], 4, 32, [(.pointer none), (.int .i64 0), (.int .i64 0), (.map none)]⟩,
  some ⟨.strct [(0, 1, 113)], 1, 8, [(.pointer none)]⟩,
  some ⟨.strct [(0, 1, 113)], 1, 8, [(.pointer none)]⟩,
  none,
  some ⟨.func, 1, 8, [.nilFunc]⟩,
  some ⟨.strct [(0, 1, 3), (1, 1, 3), (2, 1, 3), (3, 1, 3), (4, 1, 3), (5, 1, 9), (6, 1, 9)], 7, 72, [(.int .i64 0), (.int .i64 0), (.int .i64 0), (.int .i64 0), (.int .i64 0), (.string { data := #[] }), (.string { data := #[] })]⟩,
  some ⟨.strct [(0, 1, 3), (1, 1, 3), (2, 1, 3), (3, 1, 3), (4, 1, 3), (5, 1, 9), (6, 1, 9)], 7, 72, [(.int .i64 0), (.int .i64 0), (.int .i64 0), (.int .i64 0), (.int .i64 0), (.string { data := #[] }), (.string { data := #[] })]⟩,
  none,
  some ⟨.func, 1, 8, [.nilFunc]⟩,
  some ⟨.func, 1, 8, [.nilFunc]⟩,
  some ⟨.func, 1, 8, [.nilFunc]⟩,
  none,
  some ⟨.func, 1, 8, [.nilFunc]⟩,
  some ⟨.func, 1, 8, [.nilFunc]⟩,
  none,
  some ⟨.func, 1, 8, [.nilFunc]⟩,
  some ⟨.func, 1, 8, [.nilFunc]⟩,
  some ⟨.strct [(0, 1, 134)], 1, 8, [.nilFunc]⟩,
  some ⟨.strct [(0, 1, 134)], 1, 8, [.nilFunc]⟩,
  some ⟨.func, 1, 8, [.nilFunc]⟩,
  none,
  some ⟨.func, 1, 8, [.nilFunc]⟩,
  some ⟨.func, 1, 8, [.nilFunc]⟩,
  some ⟨.func, 1, 8, [.nilFunc]⟩,
  some ⟨.func, 1, 8, [.nilFunc]⟩,
  some ⟨.func, 1, 8, [.nilFunc]⟩,
  some ⟨.func, 1, 8, [.nilFunc]⟩,
  some ⟨.func, 1, 8, [.nilFunc]⟩,
  some ⟨.func, 1, 8, [.nilFunc]⟩,
  some ⟨.func, 1, 8, [.nilFunc]⟩,
  some ⟨.func, 1, 8, [.nilFunc]⟩,
  some ⟨.strct [(0, 1, 29)], 1, 8, [(.int .i64 0)]⟩,
  some ⟨.strct [(0, 1, 29)], 1, 8, [(.int .i64 0)]⟩,
  none,
  some ⟨.func, 1, 8, [.nilFunc]⟩,
  some ⟨.func, 1, 8, [.nilFunc]⟩,
  some ⟨.func, 1, 8, [.nilFunc]⟩,
  some ⟨.int .u64, 1, 8, [(.int .u64 0)]⟩,
  some ⟨.func, 1, 8, [.nilFunc]⟩,
  some ⟨.func, 1, 8, [.nilFunc]⟩,
  some ⟨.func, 1, 8, [.nilFunc]⟩,
  some ⟨.func, 1, 8, [.nilFunc]⟩,
  some ⟨.ptr 220, 1, 8, [(.pointer none)]⟩,
  some ⟨.func, 1, 8, [.nilFunc]⟩,
  some ⟨.strct [(0, 1, 160), (1, 1, 3), (2, 1, 3), (3, 1, 3)], 4, 32, [(.pointer none), (.int .i64 0), (.int .i64 0), (.int .i64 0)]⟩,
  some ⟨.strct [(0, 1, 160), (1, 1, 3), (2, 1, 3), (3, 1, 3)], 4, 32, [(.pointer none), (.int .i64 0), (.int .i64 0), (.int .i64 0)]⟩,
  some ⟨.func, 1, 8, [.nilFunc]⟩,
  some ⟨.func, 1, 8, [.nilFunc]⟩,
  some ⟨.func, 1, 8, [.nilFunc]⟩,
  some ⟨.func, 1, 8, [.nilFunc]⟩,
  some ⟨.strct [(0, 1, 9), (1, 1, 3), (2, 1, 3), (3, 1, 165), (4, 1, 166), (5, 1, 167)], 6, 56, [(.string { data := #[] }), (.int .i64 0), (.int .i64 0), .nilFunc, .nilFunc, .nilFunc]⟩,
  some ⟨.strct [(0, 1, 9), (1, 1, 3), (2, 1, 3), (3, 1, 165), (4, 1, 166), (5, 1, 167)], 6, 56, [(.string { data := #[] }), (.int .i64 0), (.int .i64 0), .nilFunc, .nilFunc, .nilFunc]⟩,
  some ⟨.map 5 169, 1, 8, [(.map none)]⟩,
  some ⟨.func, 1, 8, [.nilFunc]⟩,
  some ⟨.func, 1, 8, [.nilFunc]⟩,
  some ⟨.func, 1, 8, [.nilFunc]⟩,
  some ⟨.strct [], 0, 0, []⟩,
  none,
  none,
  some ⟨.func, 1, 8, [.nilFunc]⟩,
  some ⟨.func, 1, 8, [.nilFunc]⟩,
  some ⟨.func, 1, 8, [.nilFunc]⟩,
  some ⟨.func, 1, 8, [.nilFunc]⟩,
  some ⟨.func, 1, 8, [.nilFunc]⟩,
  some ⟨.ptr 124, 1, 8, [(.pointer none)]⟩,
  some ⟨.ptr 3, 1, 8, [(.pointer none)]⟩,
  some ⟨.strct [(0, 1, 183), (1, 1, 3), (2, 1, 3)], 3, 24, [(.pointer none), (.int .i64 0), (.int .i64 0)]⟩,
  some ⟨.strct [(0, 1, 183), (1, 1, 3), (2, 1, 3)], 3, 24, [(.pointer none), (.int .i64 0), (.int .i64 0)]⟩,
  none,
  some ⟨.func, 1, 8, [.nilFunc]⟩,
  some ⟨.func, 1, 8, [.nilFunc]⟩,
  some ⟨.func, 1, 8, [.nilFunc]⟩,
  some ⟨.func, 1, 8, [.nilFunc]⟩,
  some ⟨.func, 1, 8, [.nilFunc]⟩,
  some ⟨.func, 1, 8, [.nilFunc]⟩,
  some ⟨.func, 1, 8, [.nilFunc]⟩,
  some ⟨.func, 1, 8, [.nilFunc]⟩,
  some ⟨.func, 1, 8, [.nilFunc]⟩,
  some ⟨.arr 3 9, 3, 48, [(.string { data := #[] }), (.string { data := #[] }), (.string { data := #[] })]⟩,
  none,
  some ⟨.func, 1, 8, [.nilFunc]⟩,
  some ⟨.func, 1, 8, [.nilFunc]⟩,
  some ⟨.ptr 202, 1, 8, [(.pointer none)]⟩,
  some ⟨.strct [(0, 1, 200), (1, 1, 51)], 2, 32, [(.pointer none), (.slice none 0 0)]⟩,
  some ⟨.strct [(0, 1, 200), (1, 1, 51)], 2, 32, [(.pointer none), (.slice none 0 0)]⟩,
  some ⟨.iface, 1, 16, [.nilIface]⟩,
  some ⟨.iface, 1, 16, [.nilIface]⟩,
  none,
  some ⟨.func, 1, 8, [.nilFunc]⟩,
  some ⟨.func, 1, 8, [.nilFunc]⟩,
  some ⟨.arr 9 5, 9, 9, [(.int .u8 0), (.int .u8 0), (.int .u8 0), (.int .u8 0), (.int .u8 0), (.int .u8 0), (.int .u8 0), (.int .u8 0), (.int .u8 0)]⟩,
  some ⟨.int .u64, 1, 8, [(.int .u64 0)]⟩,
  some ⟨.func, 1, 8, [.nilFunc]⟩,
  none,
  some ⟨.func, 1, 8, [.nilFunc]⟩,
  some ⟨.func, 1, 8, [.nilFunc]⟩,
  some ⟨.map 3 3, 1, 8, [(.map none)]⟩,
  none,
  some ⟨.func, 1, 8, [.nilFunc]⟩,
  some ⟨.strct [(0, 1, 3), (1, 1, 155)], 2, 16, [(.int .i64 0), (.int .u64 0)]⟩,
  some ⟨.strct [(0, 1, 3), (1, 1, 155)], 2, 16, [(.int .i64 0), (.int .u64 0)]⟩,
  some ⟨.strct [(0, 2, 218)], 2, 16, [(.int .i64 0), (.int .u64 0)]⟩,
  some ⟨.strct [(0, 2, 218)], 2, 16, [(.int .i64 0), (.int .u64 0)]⟩,
  none,
  some ⟨.ptr 59, 1, 8, [(.pointer none)]⟩,
  some ⟨.func, 1, 8, [.nilFunc]⟩,
  some ⟨.func, 1, 8, [.nilFunc]⟩,
  some ⟨.func, 1, 8, [.nilFunc]⟩,
  some ⟨.func, 1, 8, [.nilFunc]⟩,
  some ⟨.func, 1, 8, [.nilFunc]⟩,
  some ⟨.func, 1, 8, [.nilFunc]⟩,
  some ⟨.func, 1, 8, [.nilFunc]⟩,
  some ⟨.slice 185, 1, 24, [(.slice none 0 0)]⟩,
  some ⟨.func, 1, 8, [.nilFunc]⟩,
  none,
  some ⟨.func, 1, 8, [.nilFunc]⟩,
  some ⟨.strct [], 0, 0, []⟩,
  none,
  some ⟨.func, 1, 8, [.nilFunc]⟩,
  some ⟨.func, 1, 8, [.nilFunc]⟩,
  some ⟨.func, 1, 8, [.nilFunc]⟩,
  some ⟨.func, 1, 8, [.nilFunc]⟩,
  some ⟨.func, 1, 8, [.nilFunc]⟩,
  some ⟨.func, 1, 8, [.nilFunc]⟩,
  some ⟨.func, 1, 8, [.nilFunc]⟩,
  some ⟨.ptr 5, 1, 8, [(.pointer none)]⟩,
  none,
  some ⟨.func, 1, 8, [.nilFunc]⟩,
  none,
  some ⟨.func, 1, 8, [.nilFunc]⟩,
  some ⟨.func, 1, 8, [.nilFunc]⟩,
  some ⟨.func, 1, 8, [.nilFunc]⟩,
  some ⟨.func, 1, 8, [.nilFunc]⟩,
  some ⟨.strct [(0, 1, 29)], 1, 8, [(.int .i64 0)]⟩,
  some ⟨.strct [(0, 1, 29)], 1, 8, [(.int .i64 0)]⟩,
  none,
  none,
  some ⟨.func, 1, 8, [.nilFunc]⟩,
  some ⟨.func, 1, 8, [.nilFunc]⟩,
  some ⟨.func, 1, 8, [.nilFunc]⟩,
  some ⟨.func, 1, 8, [.nilFunc]⟩,
  some ⟨.func, 1, 8, [.nilFunc]⟩,
  some ⟨.func, 1, 8, [.nilFunc]⟩,
  none,
  none,
  some ⟨.arr 0 16, 0, 0, []⟩,
  none,
  none,
  some ⟨.int .u32, 1, 4, [(.int .u32 0)]⟩,
  some ⟨.int .u8, 1, 1, [(.int .u8 0)]⟩,
  some ⟨.int .u8, 1, 1, [(.int .u8 0)]⟩,
  some ⟨.func, 1, 8, [.nilFunc]⟩,
  some ⟨.int .i32, 1, 4, [(.int .i32 0)]⟩,
  some ⟨.int .i32, 1, 4, [(.int .i32 0)]⟩,
  none,
  none,
  some ⟨.func, 1, 8, [.nilFunc]⟩,
  some ⟨.func, 1, 8, [.nilFunc]⟩,
  some ⟨.func, 1, 8, [.nilFunc]⟩,
  some ⟨.ptr 286, 1, 8, [(.pointer none)]⟩,
  some ⟨.func, 1, 8, [.nilFunc]⟩,
  some ⟨.func, 1, 8, [.nilFunc]⟩,
  some ⟨.func, 1, 8, [.nilFunc]⟩,
  some ⟨.ptr 292, 1, 8, [(.pointer none)]⟩,
  some ⟨.strct [(0, 1, 281)], 1, 8, [(.pointer none)]⟩,
  some ⟨.strct [(0, 1, 281)], 1, 8, [(.pointer none)]⟩,
  some ⟨.func, 1, 8, [.nilFunc]⟩,
  some ⟨.strct [(0, 1, 283), (1, 1, 283)], 2, 16, [(.pointer none), (.pointer none)]⟩,
  some ⟨.strct [(0, 1, 283), (1, 1, 283)], 2, 16, [(.pointer none), (.pointer none)]⟩,
  some ⟨.func, 1, 8, [.nilFunc]⟩,
  some ⟨.func, 1, 8, [.nilFunc]⟩,
  some ⟨.arr 8 266, 8, 32, [(.int .u32 0), (.int .u32 0), (.int .u32 0), (.int .u32 0), (.int .u32 0), (.int .u32 0), (.int .u32 0), (.int .u32 0)]⟩,
  some ⟨.arr 64 5, 64, 64, [(.int .u8 0), (.int .u8 0), (.int .u8 0), (.int .u8 0), (.int .u8 0), (.int .u8 0), (.int .u8 0), (.int .u8 0), (.int .u8 0), (.int .u8 0), (.int .u8 0), (.int .u8 0), (.int .u8 0), (.int .u8 0), (.int .u8 0), (.int .u8 0), (.int .u8 0), (.int .u8 0), (.int .u8 0), (.int .u8 0), (.int .u8 0), (.int .u8 0), (.int .u8 0), (.int .u8 0), (.int .u8 0), (.int .u8 0), (.int .u8 0), (.int .u8 0), (.int .u8 0), (.int .u8 0), (.int .u8 0), (.int .u8 0), (.int .u8 0), (.int .u8 0), (.int .u8 0), (.int .u8 0), (.int .u8 0), (.int .u8 0), (.int .u8 0), (.int .u8 0), (.int .u8 0), (.int .u8 0), (.int .u8 0), (.int .u8 0), (.int .u8 0), (.int .u8 0), (.int .u8 0), (.int .u8 0), (.int .u8 0), (.int .u8 0), (.int .u8 0), (.int .u8 0), (.int .u8 0), (.int .u8 0), (.int .u8 0), (.int .u8 0), (.int .u8 0), (.int .u8 0), (.int .u8 0), (.int .u8 0), (.int .u8 0), (.int .u8 0), (.int .u8 0), (.int .u8 0)]⟩,
  some ⟨.strct [(0, 8, 289), (8, 64, 290), (72, 1, 3)], 73, 104, [(.int .u32 0), (.int .u32 0), (.int .u32 0), (.int .u32 0), (.int .u32 0), (.int .u32 0), (.int .u32 0), (.int .u32 0), (.int .u8 0), (.int .u8 0), (.int .u8 0), (.int .u8 0), (.int .u8 0), (.int .u8 0), (.int .u8 0), (.int .u8 0), (.int .u8 0), (.int .u8 0), (.int .u8 0), (.int .u8 0), (.int .u8 0), (.int .u8 0), (.int .u8 0), (.int .u8 0), (.int .u8 0), (.int .u8 0), (.int .u8 0), (.int .u8 0), (.int .u8 0), (.int .u8 0), (.int .u8 0), (.int .u8 0), (.int .u8 0), (.int .u8 0), (.int .u8 0), (.int .u8 0), (.int .u8 0), (.int .u8 0), (.int .u8 0), (.int .u8 0), (.int .u8 0), (.int .u8 0), (.int .u8 0), (.int .u8 0), (.int .u8 0), (.int .u8 0), (.int .u8 0), (.int .u8 0), (.int .u8 0), (.int .u8 0), (.int .u8 0), (.int .u8 0), (.int .u8 0), (.int .u8 0), (.int .u8 0), (.int .u8 0), (.int .u8 0), (.int .u8 0), (.int .u8 0), (.int .u8 0), (.int .u8 0), (.int .u8 0), (.int .u8 0), (.int .u8 0), (.int .u8 0), (.int .u8 0), (.int .u8 0), (.int .u8 0), (.int .u8 0), (.int .u8 0), (.int .u8 0), (.int .u8 0), (.int .i64 0)]⟩,
  some ⟨.strct [(0, 8, 289), (8, 64, 290), (72, 1, 3)], 73, 104, [(.int .u32 0), (.int .u32 0), (.int .u32 0), (.int .u32 0), (.int .u32 0), (.int .u32 0), (.int .u32 0), (.int .u32 0), (.int .u8 0), (.int .u8 0), (.int .u8 0), (.int .u8 0), (.int .u8 0), (.int .u8 0), (.int .u8 0), (.int .u8 0), (.int .u8 0), (.int .u8 0), (.int .u8 0), (.int .u8 0), (.int .u8 0), (.int .u8 0), (.int .u8 0), (.int .u8 0), (.int .u8 0), (.int .u8 0), (.int .u8 0), (.int .u8 0), (.int .u8 0), (.int .u8 0), (.int .u8 0), (.int .u8 0), (.int .u8 0), (.int .u8 0), (.int .u8 0), (.int .u8 0), (.int .u8 0), (.int .u8 0), (.int .u8 0), (.int .u8 0), (.int .u8 0), (.int .u8 0), (.int .u8 0), (.int .u8 0), (.int .u8 0), (.int .u8 0), (.int .u8 0), (.int .u8 0), (.int .u8 0), (.int .u8 0), (.int .u8 0), (.int .u8 0), (.int .u8 0), (.int .u8 0), (.int .u8 0), (.int .u8 0), (.int .u8 0), (.int .u8 0), (.int .u8 0), (.int .u8 0), (.int .u8 0), (.int .u8 0), (.int .u8 0), (.int .u8 0), (.int .u8 0), (.int .u8 0), (.int .u8 0), (.int .u8 0), (.int .u8 0), (.int .u8 0), (.int .u8 0), (.int .u8 0), (.int .i64 0)]⟩,
  some ⟨.arr 16 266, 16, 64, [(.int .u32 0), (.int .u32 0), (.int .u32 0), (.int .u32 0), (.int .u32 0), (.int .u32 0), (.int .u32 0), (.int .u32 0), (.int .u32 0), (.int .u32 0), (.int .u32 0), (.int .u32 0), (.int .u32 0), (.int .u32 0), (.int .u32 0), (.int .u32 0)]⟩,
  some ⟨.arr 64 266, 64, 256, [(.int .u32 0), (.int .u32 0), (.int .u32 0), (.int .u32 0), (.int .u32 0), (.int .u32 0), (.int .u32 0), (.int .u32 0), (.int .u32 0), (.int .u32 0), (.int .u32 0), (.int .u32 0), (.int .u32 0), (.int .u32 0), (.int .u32 0), (.int .u32 0), (.int .u32 0), (.int .u32 0), (.int .u32 0), (.int .u32 0), (.int .u32 0), (.int .u32 0), (.int .u32 0), (.int .u32 0), (.int .u32 0), (.int .u32 0), (.int .u32 0), (.int .u32 0), (.int .u32 0), (.int .u32 0), (.int .u32 0), (.int .u32 0), (.int .u32 0), (.int .u32 0), (.int .u32 0), (.int .u32 0), (.int .u32 0), (.int .u32 0), (.int .u32 0), (.int .u32 0), (.int .u32 0), (.int .u32 0), (.int .u32 0), (.int .u32 0), (.int .u32 0), (.int .u32 0), (.int .u32 0), (.int .u32 0), (.int .u32 0), (.int .u32 0), (.int .u32 0), (.int .u32 0), (.int .u32 0), (.int .u32 0), (.int .u32 0), (.int .u32 0), (.int .u32 0), (.int .u32 0), (.int .u32 0), (.int .u32 0), (.int .u32 0), (.int .u32 0), (.int .u32 0), (.int .u32 0)]⟩,
  some ⟨.func, 1, 8, [.nilFunc]⟩]
def TT : Wk.Tab := Wk.nth TTl
theorem TT_eq (t : Nat) : TT t = Wk.nth TTl t := rfl
theorem tok1 : Wk.TOk Tryz.prog 1 ⟨.func, 1, 8, [.nilFunc]⟩ := ⟨⟨Tryz.t1, _, by kernel_rfl, rfl, rfl, rfl, by kernel_rfl⟩, ⟨_, _, _, Tryz.underlying1⟩, by kernel_rfl⟩
theorem tok2 : Wk.TOk Tryz.prog 2 ⟨.int .i64, 1, 8, [(.int .i64 0)]⟩ := ⟨⟨Tryz.t2, _, by kernel_rfl, rfl, rfl, rfl, by kernel_rfl⟩, Tryz.underlying2, by kernel_rfl⟩
theorem tok3 : Wk.TOk Tryz.prog 3 ⟨.int .i64, 1, 8, [(.int .i64 0)]⟩ := ⟨⟨Tryz.t3, _, by kernel_rfl, rfl, rfl, rfl, by kernel_rfl⟩, Tryz.underlying3, by kernel_rfl⟩
theorem tok4 : Wk.TOk Tryz.prog 4 ⟨.bool, 1, 1, [(.bool false)]⟩ := ⟨⟨Tryz.t4, _, by kernel_rfl, rfl, rfl, rfl, by kernel_rfl⟩, Tryz.underlying4, by kernel_rfl⟩
theorem tok5 : Wk.TOk Tryz.prog 5 ⟨.int .u8, 1, 1, [(.int .u8 0)]⟩ := ⟨⟨Tryz.t5, _, by kernel_rfl, rfl, rfl, rfl, by kernel_rfl⟩, Tryz.underlying5, by kernel_rfl⟩
theorem tok6 : Wk.TOk Tryz.prog 6 ⟨.int .u8, 1, 1, [(.int .u8 0)]⟩ := ⟨⟨Tryz.t6, _, by kernel_rfl, rfl, rfl, rfl, by kernel_rfl⟩, Tryz.underlying6, by kernel_rfl⟩
theorem tok7 : Wk.TOk Tryz.prog 7 ⟨.strct [(0, 1, 2), (1, 1, 3), (2, 1, 4), (3, 1, 6)], 4, 24, [(.int .i64 0), (.int .i64 0), (.bool false), (.int .u8 0)]⟩ := ⟨⟨Tryz.t7, _, by kernel_rfl, rfl, rfl, rfl, by kernel_rfl⟩, ⟨_, Tryz.underlying7, by kernel_rfl, Tryz.stoodInHeld7, by kernel_rfl⟩, by kernel_rfl⟩
theorem tok8 : Wk.TOk Tryz.prog 8 ⟨.strct [(0, 1, 2), (1, 1, 3), (2, 1, 4), (3, 1, 6)], 4, 24, [(.int .i64 0), (.int .i64 0), (.bool false), (.int .u8 0)]⟩ := ⟨⟨Tryz.t8, _, by kernel_rfl, rfl, rfl, rfl, by kernel_rfl⟩, ⟨_, Tryz.underlying8, by kernel_rfl, Tryz.stoodInHeld8, by kernel_rfl⟩, by kernel_rfl⟩
theorem tok9 : Wk.TOk Tryz.prog 9 ⟨.string, 1, 16, [(.string { data := #[] })]⟩ := ⟨⟨Tryz.t9, _, by kernel_rfl, rfl, rfl, rfl, by kernel_rfl⟩, Tryz.underlying9, by kernel_rfl⟩
theorem tok10 : Wk.TOk Tryz.prog 10 ⟨.string, 1, 16, [(.string { data := #[] })]⟩ := ⟨⟨Tryz.t10, _, by kernel_rfl, rfl, rfl, rfl, by kernel_rfl⟩, Tryz.underlying10, by kernel_rfl⟩
theorem tok11 : Wk.TOk Tryz.prog 11 ⟨.string, 1, 16, [(.string { data := #[] })]⟩ := ⟨⟨Tryz.t11, _, by kernel_rfl, rfl, rfl, rfl, by kernel_rfl⟩, Tryz.underlying11, by kernel_rfl⟩
theorem tok12 : Wk.TOk Tryz.prog 12 ⟨.int .u64, 1, 8, [(.int .u64 0)]⟩ := ⟨⟨Tryz.t12, _, by kernel_rfl, rfl, rfl, rfl, by kernel_rfl⟩, Tryz.underlying12, by kernel_rfl⟩
theorem tok15 : Wk.TOk Tryz.prog 15 ⟨.ptr 262, 1, 8, [(.pointer none)]⟩ := ⟨⟨Tryz.t15, _, by kernel_rfl, rfl, rfl, rfl, by kernel_rfl⟩, Tryz.underlying15, by kernel_rfl⟩
theorem tok16 : Wk.TOk Tryz.prog 16 ⟨.ptr 265, 1, 8, [(.pointer none)]⟩ := ⟨⟨Tryz.t16, _, by kernel_rfl, rfl, rfl, rfl, by kernel_rfl⟩, Tryz.underlying16, by kernel_rfl⟩
theorem tok17 : Wk.TOk Tryz.prog 17 ⟨.ptr 273, 1, 8, [(.pointer none)]⟩ := ⟨⟨Tryz.t17, _, by kernel_rfl, rfl, rfl, rfl, by kernel_rfl⟩, Tryz.underlying17, by kernel_rfl⟩
theorem tok20 : Wk.TOk Tryz.prog 20 ⟨.iface, 1, 16, [.nilIface]⟩ := ⟨⟨Tryz.t20, _, by kernel_rfl, rfl, rfl, rfl, by kernel_rfl⟩, ⟨_, Tryz.underlying20⟩, by kernel_rfl⟩
theorem tok21 : Wk.TOk Tryz.prog 21 ⟨.int .i32, 1, 4, [(.int .i32 0)]⟩ := ⟨⟨Tryz.t21, _, by kernel_rfl, rfl, rfl, rfl, by kernel_rfl⟩, Tryz.underlying21, by kernel_rfl⟩
theorem tok22 : Wk.TOk Tryz.prog 22 ⟨.strct [(0, 1, 3), (1, 1, 3), (2, 1, 3)], 3, 24, [(.int .i64 0), (.int .i64 0), (.int .i64 0)]⟩ := ⟨⟨Tryz.t22, _, by kernel_rfl, rfl, rfl, rfl, by kernel_rfl⟩, ⟨_, Tryz.underlying22, by kernel_rfl, Tryz.stoodInHeld22, by kernel_rfl⟩, by kernel_rfl⟩
theorem tok23 : Wk.TOk Tryz.prog 23 ⟨.strct [(0, 1, 3), (1, 1, 3), (2, 1, 3)], 3, 24, [(.int .i64 0), (.int .i64 0), (.int .i64 0)]⟩ := ⟨⟨Tryz.t23, _, by kernel_rfl, rfl, rfl, rfl, by kernel_rfl⟩, ⟨_, Tryz.underlying23, by kernel_rfl, Tryz.stoodInHeld23, by kernel_rfl⟩, by kernel_rfl⟩
theorem tok24 : Wk.TOk Tryz.prog 24 ⟨.slice 84, 1, 24, [(.slice none 0 0)]⟩ := ⟨⟨Tryz.t24, _, by kernel_rfl, rfl, rfl, rfl, by kernel_rfl⟩, Tryz.underlying24, by kernel_rfl⟩
theorem tok25 : Wk.TOk Tryz.prog 25 ⟨.slice 9, 1, 24, [(.slice none 0 0)]⟩ := ⟨⟨Tryz.t25, _, by kernel_rfl, rfl, rfl, rfl, by kernel_rfl⟩, Tryz.underlying25, by kernel_rfl⟩
theorem tok26 : Wk.TOk Tryz.prog 26 ⟨.strct [(0, 3, 23), (3, 1, 3), (4, 1, 24), (5, 1, 25)], 6, 80, [(.int .i64 0), (.int .i64 0), (.int .i64 0), (.int .i64 0), (.slice none 0 0), (.slice none 0 0)]⟩ := ⟨⟨Tryz.t26, _, by kernel_rfl, rfl, rfl, rfl, by kernel_rfl⟩, ⟨_, Tryz.underlying26, by kernel_rfl, Tryz.stoodInHeld26, by kernel_rfl⟩, by kernel_rfl⟩
theorem tok27 : Wk.TOk Tryz.prog 27 ⟨.strct [(0, 3, 23), (3, 1, 3), (4, 1, 24), (5, 1, 25)], 6, 80, [(.int .i64 0), (.int .i64 0), (.int .i64 0), (.int .i64 0), (.slice none 0 0), (.slice none 0 0)]⟩ := ⟨⟨Tryz.t27, _, by kernel_rfl, rfl, rfl, rfl, by kernel_rfl⟩, ⟨_, Tryz.underlying27, by kernel_rfl, Tryz.stoodInHeld27, by kernel_rfl⟩, by kernel_rfl⟩
theorem tok28 : Wk.TOk Tryz.prog 28 ⟨.ptr 80, 1, 8, [(.pointer none)]⟩ := ⟨⟨Tryz.t28, _, by kernel_rfl, rfl, rfl, rfl, by kernel_rfl⟩, Tryz.underlying28, by kernel_rfl⟩
theorem tok29 : Wk.TOk Tryz.prog 29 ⟨.int .i64, 1, 8, [(.int .i64 0)]⟩ := ⟨⟨Tryz.t29, _, by kernel_rfl, rfl, rfl, rfl, by kernel_rfl⟩, Tryz.underlying29, by kernel_rfl⟩
theorem tok31 : Wk.TOk Tryz.prog 31 ⟨.func, 1, 8, [.nilFunc]⟩ := ⟨⟨Tryz.t31, _, by kernel_rfl, rfl, rfl, rfl, by kernel_rfl⟩, ⟨_, _, _, Tryz.underlying31⟩, by kernel_rfl⟩
theorem tok32 : Wk.TOk Tryz.prog 32 ⟨.func, 1, 8, [.nilFunc]⟩ := ⟨⟨Tryz.t32, _, by kernel_rfl, rfl, rfl, rfl, by kernel_rfl⟩, ⟨_, _, _, Tryz.underlying32⟩, by kernel_rfl⟩
theorem tok33 : Wk.TOk Tryz.prog 33 ⟨.func, 1, 8, [.nilFunc]⟩ := ⟨⟨Tryz.t33, _, by kernel_rfl, rfl, rfl, rfl, by kernel_rfl⟩, ⟨_, _, _, Tryz.underlying33⟩, by kernel_rfl⟩
theorem tok34 : Wk.TOk Tryz.prog 34 ⟨.func, 1, 8, [.nilFunc]⟩ := ⟨⟨Tryz.t34, _, by kernel_rfl, rfl, rfl, rfl, by kernel_rfl⟩, ⟨_, _, _, Tryz.underlying34⟩, by kernel_rfl⟩
theorem tok36 : Wk.TOk Tryz.prog 36 ⟨.func, 1, 8, [.nilFunc]⟩ := ⟨⟨Tryz.t36, _, by kernel_rfl, rfl, rfl, rfl, by kernel_rfl⟩, ⟨_, _, _, Tryz.underlying36⟩, by kernel_rfl⟩
theorem tok37 : Wk.TOk Tryz.prog 37 ⟨.ptr 97, 1, 8, [(.pointer none)]⟩ := ⟨⟨Tryz.t37, _, by kernel_rfl, rfl, rfl, rfl, by kernel_rfl⟩, Tryz.underlying37, by kernel_rfl⟩
theorem tok39 : Wk.TOk Tryz.prog 39 ⟨.func, 1, 8, [.nilFunc]⟩ := ⟨⟨Tryz.t39, _, by kernel_rfl, rfl, rfl, rfl, by kernel_rfl⟩, ⟨_, _, _, Tryz.underlying39⟩, by kernel_rfl⟩
theorem tok41 : Wk.TOk Tryz.prog 41 ⟨.func, 1, 8, [.nilFunc]⟩ := ⟨⟨Tryz.t41, _, by kernel_rfl, rfl, rfl, rfl, by kernel_rfl⟩, ⟨_, _, _, Tryz.underlying41⟩, by kernel_rfl⟩
theorem tok42 : Wk.TOk Tryz.prog 42 ⟨.slice 45, 1, 24, [(.slice none 0 0)]⟩ := ⟨⟨Tryz.t42, _, by kernel_rfl, rfl, rfl, rfl, by kernel_rfl⟩, Tryz.underlying42, by kernel_rfl⟩
theorem tok43 : Wk.TOk Tryz.prog 43 ⟨.func, 1, 8, [.nilFunc]⟩ := ⟨⟨Tryz.t43, _, by kernel_rfl, rfl, rfl, rfl, by kernel_rfl⟩, ⟨_, _, _, Tryz.underlying43⟩, by kernel_rfl⟩
theorem tok44 : Wk.TOk Tryz.prog 44 ⟨.strct [(0, 3, 23), (3, 1, 3), (4, 1, 24), (5, 1, 3)], 6, 64, [(.int .i64 0), (.int .i64 0), (.int .i64 0), (.int .i64 0), (.slice none 0 0), (.int .i64 0)]⟩ := ⟨⟨Tryz.t44, _, by kernel_rfl, rfl, rfl, rfl, by kernel_rfl⟩, ⟨_, Tryz.underlying44, by kernel_rfl, Tryz.stoodInHeld44, by kernel_rfl⟩, by kernel_rfl⟩
theorem tok45 : Wk.TOk Tryz.prog 45 ⟨.strct [(0, 3, 23), (3, 1, 3), (4, 1, 24), (5, 1, 3)], 6, 64, [(.int .i64 0), (.int .i64 0), (.int .i64 0), (.int .i64 0), (.slice none 0 0), (.int .i64 0)]⟩ := ⟨⟨Tryz.t45, _, by kernel_rfl, rfl, rfl, rfl, by kernel_rfl⟩, ⟨_, Tryz.underlying45, by kernel_rfl, Tryz.stoodInHeld45, by kernel_rfl⟩, by kernel_rfl⟩
theorem tok46 : Wk.TOk Tryz.prog 46 ⟨.func, 1, 8, [.nilFunc]⟩ := ⟨⟨Tryz.t46, _, by kernel_rfl, rfl, rfl, rfl, by kernel_rfl⟩, ⟨_, _, _, Tryz.underlying46⟩, by kernel_rfl⟩
theorem tok48 : Wk.TOk Tryz.prog 48 ⟨.func, 1, 8, [.nilFunc]⟩ := ⟨⟨Tryz.t48, _, by kernel_rfl, rfl, rfl, rfl, by kernel_rfl⟩, ⟨_, _, _, Tryz.underlying48⟩, by kernel_rfl⟩
theorem tok49 : Wk.TOk Tryz.prog 49 ⟨.func, 1, 8, [.nilFunc]⟩ := ⟨⟨Tryz.t49, _, by kernel_rfl, rfl, rfl, rfl, by kernel_rfl⟩, ⟨_, _, _, Tryz.underlying49⟩, by kernel_rfl⟩
theorem tok50 : Wk.TOk Tryz.prog 50 ⟨.func, 1, 8, [.nilFunc]⟩ := ⟨⟨Tryz.t50, _, by kernel_rfl, rfl, rfl, rfl, by kernel_rfl⟩, ⟨_, _, _, Tryz.underlying50⟩, by kernel_rfl⟩
theorem tok51 : Wk.TOk Tryz.prog 51 ⟨.slice 5, 1, 24, [(.slice none 0 0)]⟩ := ⟨⟨Tryz.t51, _, by kernel_rfl, rfl, rfl, rfl, by kernel_rfl⟩, Tryz.underlying51, by kernel_rfl⟩
theorem tok52 : Wk.TOk Tryz.prog 52 ⟨.slice 59, 1, 24, [(.slice none 0 0)]⟩ := ⟨⟨Tryz.t52, _, by kernel_rfl, rfl, rfl, rfl, by kernel_rfl⟩, Tryz.underlying52, by kernel_rfl⟩
theorem tok53 : Wk.TOk Tryz.prog 53 ⟨.ptr 118, 1, 8, [(.pointer none)]⟩ := ⟨⟨Tryz.t53, _, by kernel_rfl, rfl, rfl, rfl, by kernel_rfl⟩, Tryz.underlying53, by kernel_rfl⟩
theorem tok55 : Wk.TOk Tryz.prog 55 ⟨.func, 1, 8, [.nilFunc]⟩ := ⟨⟨Tryz.t55, _, by kernel_rfl, rfl, rfl, rfl, by kernel_rfl⟩, ⟨_, _, _, Tryz.underlying55⟩, by kernel_rfl⟩
theorem tok56 : Wk.TOk Tryz.prog 56 ⟨.slice 3, 1, 24, [(.slice none 0 0)]⟩ := ⟨⟨Tryz.t56, _, by kernel_rfl, rfl, rfl, rfl, by kernel_rfl⟩, Tryz.underlying56, by kernel_rfl⟩
theorem tok57 : Wk.TOk Tryz.prog 57 ⟨.func, 1, 8, [.nilFunc]⟩ := ⟨⟨Tryz.t57, _, by kernel_rfl, rfl, rfl, rfl, by kernel_rfl⟩, ⟨_, _, _, Tryz.underlying57⟩, by kernel_rfl⟩
theorem tok58 : Wk.TOk Tryz.prog 58 ⟨.strct [(0, 1, 5), (1, 3, 23), (4, 1, 3), (5, 1, 24), (6, 1, 9), (7, 1, 4), (8, 1, 9)], 9, 104, [(.int .u8 0), (.int .i64 0), (.int .i64 0), (.int .i64 0), (.int .i64 0), (.slice none 0 0), (.string { data := #[] }), (.bool false), (.string { data := #[] })]⟩ := ⟨⟨Tryz.t58, _, by kernel_rfl, rfl, rfl, rfl, by kernel_rfl⟩, ⟨_, Tryz.underlying58, by kernel_rfl, Tryz.stoodInHeld58, by kernel_rfl⟩, by kernel_rfl⟩
theorem tok59 : Wk.TOk Tryz.prog 59 ⟨.strct [(0, 1, 5), (1, 3, 23), (4, 1, 3), (5, 1, 24), (6, 1, 9), (7, 1, 4), (8, 1, 9)], 9, 104, [(.int .u8 0), (.int .i64 0), (.int .i64 0), (.int .i64 0), (.int .i64 0), (.slice none 0 0), (.string { data := #[] }), (.bool false), (.string { data := #[] })]⟩ := ⟨⟨Tryz.t59, _, by kernel_rfl, rfl, rfl, rfl, by kernel_rfl⟩, ⟨_, Tryz.underlying59, by kernel_rfl, Tryz.stoodInHeld59, by kernel_rfl⟩, by kernel_rfl⟩
theorem tok60 : Wk.TOk Tryz.prog 60 ⟨.func, 1, 8, [.nilFunc]⟩ := ⟨⟨Tryz.t60, _, by kernel_rfl, rfl, rfl, rfl, by kernel_rfl⟩, ⟨_, _, _, Tryz.underlying60⟩, by kernel_rfl⟩
theorem tok61 : Wk.TOk Tryz.prog 61 ⟨.strct [(0, 1, 3), (1, 9, 59), (10, 1, 4)], 11, 120, [(.int .i64 0), (.int .u8 0), (.int .i64 0), (.int .i64 0), (.int .i64 0), (.int .i64 0), (.slice none 0 0), (.string { data := #[] }), (.bool false), (.string { data := #[] }), (.bool false)]⟩ := ⟨⟨Tryz.t61, _, by kernel_rfl, rfl, rfl, rfl, by kernel_rfl⟩, ⟨_, Tryz.underlying61, by kernel_rfl, Tryz.stoodInHeld61, by kernel_rfl⟩, by kernel_rfl⟩
theorem tok62 : Wk.TOk Tryz.prog 62 ⟨.strct [(0, 1, 3), (1, 9, 59), (10, 1, 4)], 11, 120, [(.int .i64 0), (.int .u8 0), (.int .i64 0), (.int .i64 0), (.int .i64 0), (.int .i64 0), (.slice none 0 0), (.string { data := #[] }), (.bool false), (.string { data := #[] }), (.bool false)]⟩ := ⟨⟨Tryz.t62, _, by kernel_rfl, rfl, rfl, rfl, by kernel_rfl⟩, ⟨_, Tryz.underlying62, by kernel_rfl, Tryz.stoodInHeld62, by kernel_rfl⟩, by kernel_rfl⟩
theorem tok64 : Wk.TOk Tryz.prog 64 ⟨.func, 1, 8, [.nilFunc]⟩ := ⟨⟨Tryz.t64, _, by kernel_rfl, rfl, rfl, rfl, by kernel_rfl⟩, ⟨_, _, _, Tryz.underlying64⟩, by kernel_rfl⟩
theorem tok65 : Wk.TOk Tryz.prog 65 ⟨.func, 1, 8, [.nilFunc]⟩ := ⟨⟨Tryz.t65, _, by kernel_rfl, rfl, rfl, rfl, by kernel_rfl⟩, ⟨_, _, _, Tryz.underlying65⟩, by kernel_rfl⟩
theorem tok66 : Wk.TOk Tryz.prog 66 ⟨.func, 1, 8, [.nilFunc]⟩ := ⟨⟨Tryz.t66, _, by kernel_rfl, rfl, rfl, rfl, by kernel_rfl⟩, ⟨_, _, _, Tryz.underlying66⟩, by kernel_rfl⟩
theorem tok67 : Wk.TOk Tryz.prog 67 ⟨.func, 1, 8, [.nilFunc]⟩ := ⟨⟨Tryz.t67, _, by kernel_rfl, rfl, rfl, rfl, by kernel_rfl⟩, ⟨_, _, _, Tryz.underlying67⟩, by kernel_rfl⟩
theorem tok68 : Wk.TOk Tryz.prog 68 ⟨.strct [(0, 1, 5), (1, 1, 5), (2, 1, 5), (3, 1, 5), (4, 9, 59), (13, 1, 9)], 14, 128, [(.int .u8 0), (.int .u8 0), (.int .u8 0), (.int .u8 0), (.int .u8 0), (.int .i64 0), (.int .i64 0), (.int .i64 0), (.int .i64 0), (.slice none 0 0), (.string { data := #[] }), (.bool false), (.string { data := #[] }), (.string { data := #[] })]⟩ := ⟨⟨Tryz.t68, _, by kernel_rfl, rfl, rfl, rfl, by kernel_rfl⟩, ⟨_, Tryz.underlying68, by kernel_rfl, Tryz.stoodInHeld68, by kernel_rfl⟩, by kernel_rfl⟩
theorem tok69 : Wk.TOk Tryz.prog 69 ⟨.strct [(0, 1, 5), (1, 1, 5), (2, 1, 5), (3, 1, 5), (4, 9, 59), (13, 1, 9)], 14, 128, [(.int .u8 0), (.int .u8 0), (.int .u8 0), (.int .u8 0), (.int .u8 0), (.int .i64 0), (.int .i64 0), (.int .i64 0), (.int .i64 0), (.slice none 0 0), (.string { data := #[] }), (.bool false), (.string { data := #[] }), (.string { data := #[] })]⟩ := ⟨⟨Tryz.t69, _, by kernel_rfl, rfl, rfl, rfl, by kernel_rfl⟩, ⟨_, Tryz.underlying69, by kernel_rfl, Tryz.stoodInHeld69, by kernel_rfl⟩, by kernel_rfl⟩
theorem tok70 : Wk.TOk Tryz.prog 70 ⟨.slice 69, 1, 24, [(.slice none 0 0)]⟩ := ⟨⟨Tryz.t70, _, by kernel_rfl, rfl, rfl, rfl, by kernel_rfl⟩, Tryz.underlying70, by kernel_rfl⟩
theorem tok71 : Wk.TOk Tryz.prog 71 ⟨.func, 1, 8, [.nilFunc]⟩ := ⟨⟨Tryz.t71, _, by kernel_rfl, rfl, rfl, rfl, by kernel_rfl⟩, ⟨_, _, _, Tryz.underlying71⟩, by kernel_rfl⟩
theorem tok72 : Wk.TOk Tryz.prog 72 ⟨.func, 1, 8, [.nilFunc]⟩ := ⟨⟨Tryz.t72, _, by kernel_rfl, rfl, rfl, rfl, by kernel_rfl⟩, ⟨_, _, _, Tryz.underlying72⟩, by kernel_rfl⟩
theorem tok73 : Wk.TOk Tryz.prog 73 ⟨.func, 1, 8, [.nilFunc]⟩ := ⟨⟨Tryz.t73, _, by kernel_rfl, rfl, rfl, rfl, by kernel_rfl⟩, ⟨_, _, _, Tryz.underlying73⟩, by kernel_rfl⟩
theorem tok74 : Wk.TOk Tryz.prog 74 ⟨.func, 1, 8, [.nilFunc]⟩ := ⟨⟨Tryz.t74, _, by kernel_rfl, rfl, rfl, rfl, by kernel_rfl⟩, ⟨_, _, _, Tryz.underlying74⟩, by kernel_rfl⟩
theorem tok75 : Wk.TOk Tryz.prog 75 ⟨.strct [], 0, 0, []⟩ := ⟨⟨Tryz.t75, _, by kernel_rfl, rfl, rfl, rfl, by kernel_rfl⟩, ⟨_, Tryz.underlying75, by kernel_rfl, Tryz.stoodInHeld75, by kernel_rfl⟩, by kernel_rfl⟩
theorem tok76 : Wk.TOk Tryz.prog 76 ⟨.strct [], 0, 0, []⟩ := ⟨⟨Tryz.t76, _, by kernel_rfl, rfl, rfl, rfl, by kernel_rfl⟩, ⟨_, Tryz.underlying76, by kernel_rfl, Tryz.stoodInHeld76, by kernel_rfl⟩, by kernel_rfl⟩
theorem tok77 : Wk.TOk Tryz.prog 77 ⟨.iface, 1, 16, [.nilIface]⟩ := ⟨⟨Tryz.t77, _, by kernel_rfl, rfl, rfl, rfl, by kernel_rfl⟩, ⟨_, Tryz.underlying77⟩, by kernel_rfl⟩
theorem tok78 : Wk.TOk Tryz.prog 78 ⟨.iface, 1, 16, [.nilIface]⟩ := ⟨⟨Tryz.t78, _, by kernel_rfl, rfl, rfl, rfl, by kernel_rfl⟩, ⟨_, Tryz.underlying78⟩, by kernel_rfl⟩
theorem tok79 : Wk.TOk Tryz.prog 79 ⟨.strct [(0, 1, 78)], 1, 16, [.nilIface]⟩ := ⟨⟨Tryz.t79, _, by kernel_rfl, rfl, rfl, rfl, by kernel_rfl⟩, ⟨_, Tryz.underlying79, by kernel_rfl, Tryz.stoodInHeld79, by kernel_rfl⟩, by kernel_rfl⟩
theorem tok80 : Wk.TOk Tryz.prog 80 ⟨.strct [(0, 1, 78)], 1, 16, [.nilIface]⟩ := ⟨⟨Tryz.t80, _, by kernel_rfl, rfl, rfl, rfl, by kernel_rfl⟩, ⟨_, Tryz.underlying80, by kernel_rfl, Tryz.stoodInHeld80, by kernel_rfl⟩, by kernel_rfl⟩
theorem tok81 : Wk.TOk Tryz.prog 81 ⟨.strct [(0, 1, 9)], 1, 16, [(.string { data := #[] })]⟩ := ⟨⟨Tryz.t81, _, by kernel_rfl, rfl, rfl, rfl, by kernel_rfl⟩, ⟨_, Tryz.underlying81, by kernel_rfl, Tryz.stoodInHeld81, by kernel_rfl⟩, by kernel_rfl⟩
theorem tok82 : Wk.TOk Tryz.prog 82 ⟨.strct [(0, 1, 9)], 1, 16, [(.string { data := #[] })]⟩ := ⟨⟨Tryz.t82, _, by kernel_rfl, rfl, rfl, rfl, by kernel_rfl⟩, ⟨_, Tryz.underlying82, by kernel_rfl, Tryz.stoodInHeld82, by kernel_rfl⟩, by kernel_rfl⟩
theorem tok83 : Wk.TOk Tryz.prog 83 ⟨.strct [(0, 1, 3), (1, 1, 9)], 2, 24, [(.int .i64 0), (.string { data := #[] })]⟩ := ⟨⟨Tryz.t83, _, by kernel_rfl, rfl, rfl, rfl, by kernel_rfl⟩, ⟨_, Tryz.underlying83, by kernel_rfl, Tryz.stoodInHeld83, by kernel_rfl⟩, by kernel_rfl⟩
theorem tok84 : Wk.TOk Tryz.prog 84 ⟨.strct [(0, 1, 3), (1, 1, 9)], 2, 24, [(.int .i64 0), (.string { data := #[] })]⟩ := ⟨⟨Tryz.t84, _, by kernel_rfl, rfl, rfl, rfl, by kernel_rfl⟩, ⟨_, Tryz.underlying84, by kernel_rfl, Tryz.stoodInHeld84, by kernel_rfl⟩, by kernel_rfl⟩
theorem tok86 : Wk.TOk Tryz.prog 86 ⟨.func, 1, 8, [.nilFunc]⟩ := ⟨⟨Tryz.t86, _, by kernel_rfl, rfl, rfl, rfl, by kernel_rfl⟩, ⟨_, _, _, Tryz.underlying86⟩, by kernel_rfl⟩
theorem tok87 : Wk.TOk Tryz.prog 87 ⟨.func, 1, 8, [.nilFunc]⟩ := ⟨⟨Tryz.t87, _, by kernel_rfl, rfl, rfl, rfl, by kernel_rfl⟩, ⟨_, _, _, Tryz.underlying87⟩, by kernel_rfl⟩
theorem tok88 : Wk.TOk Tryz.prog 88 ⟨.func, 1, 8, [.nilFunc]⟩ := ⟨⟨Tryz.t88, _, by kernel_rfl, rfl, rfl, rfl, by kernel_rfl⟩, ⟨_, _, _, Tryz.underlying88⟩, by kernel_rfl⟩
theorem tok89 : Wk.TOk Tryz.prog 89 ⟨.func, 1, 8, [.nilFunc]⟩ := ⟨⟨Tryz.t89, _, by kernel_rfl, rfl, rfl, rfl, by kernel_rfl⟩, ⟨_, _, _, Tryz.underlying89⟩, by kernel_rfl⟩
theorem tok90 : Wk.TOk Tryz.prog 90 ⟨.func, 1, 8, [.nilFunc]⟩ := ⟨⟨Tryz.t90, _, by kernel_rfl, rfl, rfl, rfl, by kernel_rfl⟩, ⟨_, _, _, Tryz.underlying90⟩, by kernel_rfl⟩
theorem tok91 : Wk.TOk Tryz.prog 91 ⟨.func, 1, 8, [.nilFunc]⟩ := ⟨⟨Tryz.t91, _, by kernel_rfl, rfl, rfl, rfl, by kernel_rfl⟩, ⟨_, _, _, Tryz.underlying91⟩, by kernel_rfl⟩
theorem tok92 : Wk.TOk Tryz.prog 92 ⟨.func, 1, 8, [.nilFunc]⟩ := ⟨⟨Tryz.t92, _, by kernel_rfl, rfl, rfl, rfl, by kernel_rfl⟩, ⟨_, _, _, Tryz.underlying92⟩, by kernel_rfl⟩
theorem tok93 : Wk.TOk Tryz.prog 93 ⟨.strct [(0, 1, 28)], 1, 8, [(.pointer none)]⟩ := ⟨⟨Tryz.t93, _, by kernel_rfl, rfl, rfl, rfl, by kernel_rfl⟩, ⟨_, Tryz.underlying93, by kernel_rfl, Tryz.stoodInHeld93, by kernel_rfl⟩, by kernel_rfl⟩
theorem tok94 : Wk.TOk Tryz.prog 94 ⟨.strct [(0, 1, 28)], 1, 8, [(.pointer none)]⟩ := ⟨⟨Tryz.t94, _, by kernel_rfl, rfl, rfl, rfl, by kernel_rfl⟩, ⟨_, Tryz.underlying94, by kernel_rfl, Tryz.stoodInHeld94, by kernel_rfl⟩, by kernel_rfl⟩
theorem tok95 : Wk.TOk Tryz.prog 95 ⟨.func, 1, 8, [.nilFunc]⟩ := ⟨⟨Tryz.t95, _, by kernel_rfl, rfl, rfl, rfl, by kernel_rfl⟩, ⟨_, _, _, Tryz.underlying95⟩, by kernel_rfl⟩
theorem tok96 : Wk.TOk Tryz.prog 96 ⟨.strct [(0, 1, 94), (1, 1, 3), (2, 1, 25)], 3, 40, [(.pointer none), (.int .i64 0), (.slice none 0 0)]⟩ := ⟨⟨Tryz.t96, _, by kernel_rfl, rfl, rfl, rfl, by kernel_rfl⟩, ⟨_, Tryz.underlying96, by kernel_rfl, Tryz.stoodInHeld96, by kernel_rfl⟩, by kernel_rfl⟩
theorem tok97 : Wk.TOk Tryz.prog 97 ⟨.strct [(0, 1, 94), (1, 1, 3), (2, 1, 25)], 3, 40, [(.pointer none), (.int .i64 0), (.slice none 0 0)]⟩ := ⟨⟨Tryz.t97, _, by kernel_rfl, rfl, rfl, rfl, by kernel_rfl⟩, ⟨_, Tryz.underlying97, by kernel_rfl, Tryz.stoodInHeld97, by kernel_rfl⟩, by kernel_rfl⟩
theorem tok98 : Wk.TOk Tryz.prog 98 ⟨.func, 1, 8, [.nilFunc]⟩ := ⟨⟨Tryz.t98, _, by kernel_rfl, rfl, rfl, rfl, by kernel_rfl⟩, ⟨_, _, _, Tryz.underlying98⟩, by kernel_rfl⟩
theorem tok99 : Wk.TOk Tryz.prog 99 ⟨.func, 1, 8, [.nilFunc]⟩ := ⟨⟨Tryz.t99, _, by kernel_rfl, rfl, rfl, rfl, by kernel_rfl⟩, ⟨_, _, _, Tryz.underlying99⟩, by kernel_rfl⟩
theorem tok100 : Wk.TOk Tryz.prog 100 ⟨.func, 1, 8, [.nilFunc]⟩ := ⟨⟨Tryz.t100, _, by kernel_rfl, rfl, rfl, rfl, by kernel_rfl⟩, ⟨_, _, _, Tryz.underlying100⟩, by kernel_rfl⟩
theorem tok101 : Wk.TOk Tryz.prog 101 ⟨.func, 1, 8, [.nilFunc]⟩ := ⟨⟨Tryz.t101, _, by kernel_rfl, rfl, rfl, rfl, by kernel_rfl⟩, ⟨_, _, _, Tryz.underlying101⟩, by kernel_rfl⟩
theorem tok102 : Wk.TOk Tryz.prog 102 ⟨.func, 1, 8, [.nilFunc]⟩ := ⟨⟨Tryz.t102, _, by kernel_rfl, rfl, rfl, rfl, by kernel_rfl⟩, ⟨_, _, _, Tryz.underlying102⟩, by kernel_rfl⟩
theorem tok103 : Wk.TOk Tryz.prog 103 ⟨.func, 1, 8, [.nilFunc]⟩ := ⟨⟨Tryz.t103, _, by kernel_rfl, rfl, rfl, rfl, by kernel_rfl⟩, ⟨_, _, _, Tryz.underlying103⟩, by kernel_rfl⟩
theorem tok104 : Wk.TOk Tryz.prog 104 ⟨.func, 1, 8, [.nilFunc]⟩ := ⟨⟨Tryz.t104, _, by kernel_rfl, rfl, rfl, rfl, by kernel_rfl⟩, ⟨_, _, _, Tryz.underlying104⟩, by kernel_rfl⟩
theorem tok105 : Wk.TOk Tryz.prog 105 ⟨.func, 1, 8, [.nilFunc]⟩ := ⟨⟨Tryz.t105, _, by kernel_rfl, rfl, rfl, rfl, by kernel_rfl⟩, ⟨_, _, _, Tryz.underlying105⟩, by kernel_rfl⟩
theorem tok106 : Wk.TOk Tryz.prog 106 ⟨.func, 1, 8, [.nilFunc]⟩ := ⟨⟨Tryz.t106, _, by kernel_rfl, rfl, rfl, rfl, by kernel_rfl⟩, ⟨_, _, _, Tryz.underlying106⟩, by kernel_rfl⟩
theorem tok107 : Wk.TOk Tryz.prog 107 ⟨.func, 1, 8, [.nilFunc]⟩ := ⟨⟨Tryz.t107, _, by kernel_rfl, rfl, rfl, rfl, by kernel_rfl⟩, ⟨_, _, _, Tryz.underlying107⟩, by kernel_rfl⟩
theorem tok109 : Wk.TOk Tryz.prog 109 ⟨.func, 1, 8, [.nilFunc]⟩ := ⟨⟨Tryz.t109, _, by kernel_rfl, rfl, rfl, rfl, by kernel_rfl⟩, ⟨_, _, _, Tryz.underlying109⟩, by kernel_rfl⟩
theorem tok110 : Wk.TOk Tryz.prog 110 ⟨.func, 1, 8, [.nilFunc]⟩ := ⟨⟨Tryz.t110, _, by kernel_rfl, rfl, rfl, rfl, by kernel_rfl⟩, ⟨_, _, _, Tryz.underlying110⟩, by kernel_rfl⟩
theorem tok111 : Wk.TOk Tryz.prog 111 ⟨.func, 1, 8, [.nilFunc]⟩ := ⟨⟨Tryz.t111, _, by kernel_rfl, rfl, rfl, rfl, by kernel_rfl⟩, ⟨_, _, _, Tryz.underlying111⟩, by kernel_rfl⟩
theorem tok112 : Wk.TOk Tryz.prog 112 ⟨.func, 1, 8, [.nilFunc]⟩ := ⟨⟨Tryz.t112, _, by kernel_rfl, rfl, rfl, rfl, by kernel_rfl⟩, ⟨_, _, _, Tryz.underlying112⟩, by kernel_rfl⟩
theorem tok113 : Wk.TOk Tryz.prog 113 ⟨.ptr 163, 1, 8, [(.pointer none)]⟩ := ⟨⟨Tryz.t113, _, by kernel_rfl, rfl, rfl, rfl, by kernel_rfl⟩, Tryz.underlying113, by kernel_rfl⟩
theorem tok115 : Wk.TOk Tryz.prog 115 ⟨.func, 1, 8, [.nilFunc]⟩ := ⟨⟨Tryz.t115, _, by kernel_rfl, rfl, rfl, rfl, by kernel_rfl⟩, ⟨_, _, _, Tryz.underlying115⟩, by kernel_rfl⟩
theorem tok116 : Wk.TOk Tryz.prog 116 ⟨.map 3 120, 1, 8, [(.map none)]⟩ := ⟨⟨Tryz.t116, _, by kernel_rfl, rfl, rfl, rfl, by kernel_rfl⟩, Tryz.underlying116, by kernel_rfl⟩
theorem tok117 : Wk.TOk Tryz.prog 117 ⟨.strct [(0, 1, 28), (1, 1, 3), (2, 1, 3), (3, 1, 116)], 4, 32, [(.pointer none), (.int .i64 0), (.int .i64 0), (.map none)]⟩ := ⟨⟨Tryz.t117, _, by kernel_rfl, rfl, rfl, rfl, by kernel_rfl⟩, ⟨_, Tryz.underlying117, by kernel_rfl, Tryz.stoodInHeld117, by kernel_rfl⟩, by kernel_rfl⟩
theorem tok118 : Wk.TOk Tryz.prog 118 ⟨.strct [(0, 1, 28), (1, 1, 3), (2, 1, 3), (3, 1, 116)], 4, 32, [(.pointer none), (.int .i64 0), (.int .i64 0), (.map none)]⟩ := ⟨⟨Tryz.t118, _, by kernel_rfl, rfl, rfl, rfl, by kernel_rfl⟩, ⟨_, Tryz.underlying118, by kernel_rfl, Tryz.stoodInHeld118, by kernel_rfl⟩, by kernel_rfl⟩
theorem tok119 : Wk.TOk Tryz.prog 119 ⟨.strct [(0, 1, 113)], 1, 8, [(.pointer none)]⟩ := ⟨⟨Tryz.t119, _, by kernel_rfl, rfl, rfl, rfl, by kernel_rfl⟩, ⟨_, Tryz.underlying119, by kernel_rfl, Tryz.stoodInHeld119, by kernel_rfl⟩, by kernel_rfl⟩
theorem tok120 : Wk.TOk Tryz.prog 120 ⟨.strct [(0, 1, 113)], 1, 8, [(.pointer none)]⟩ := ⟨⟨Tryz.t120, _, by kernel_rfl, rfl, rfl, rfl, by kernel_rfl⟩, ⟨_, Tryz.underlying120, by kernel_rfl, Tryz.stoodInHeld120, by kernel_rfl⟩, by kernel_rfl⟩
theorem tok122 : Wk.TOk Tryz.prog 122 ⟨.func, 1, 8, [.nilFunc]⟩ := ⟨⟨Tryz.t122, _, by kernel_rfl, rfl, rfl, rfl, by kernel_rfl⟩, ⟨_, _, _, Tryz.underlying122⟩, by kernel_rfl⟩
theorem tok123 : Wk.TOk Tryz.prog 123 ⟨.strct [(0, 1, 3), (1, 1, 3), (2, 1, 3), (3, 1, 3), (4, 1, 3), (5, 1, 9), (6, 1, 9)], 7, 72, [(.int .i64 0), (.int .i64 0), (.int .i64 0), (.int .i64 0), (.int .i64 0), (.string { data := #[] }), (.string { data := #[] })]⟩ := ⟨⟨Tryz.t123, _, by kernel_rfl, rfl, rfl, rfl, by kernel_rfl⟩, ⟨_, Tryz.underlying123, by kernel_rfl, Tryz.stoodInHeld123, by kernel_rfl⟩, by kernel_rfl⟩
theorem tok124 : Wk.TOk Tryz.prog 124 ⟨.strct [(0, 1, 3), (1, 1, 3), (2, 1, 3), (3, 1, 3), (4, 1, 3), (5, 1, 9), (6, 1, 9)], 7, 72, [(.int .i64 0), (.int .i64 0), (.int .i64 0), (.int .i64 0), (.int .i64 0), (.string { data := #[] }), (.string { data := #[] })]⟩ := ⟨⟨Tryz.t124, _, by kernel_rfl, rfl, rfl, rfl, by kernel_rfl⟩, ⟨_, Tryz.underlying124, by kernel_rfl, Tryz.stoodInHeld124, by kernel_rfl⟩, by kernel_rfl⟩
theorem tok126 : Wk.TOk Tryz.prog 126 ⟨.func, 1, 8, [.nilFunc]⟩ := ⟨⟨Tryz.t126, _, by kernel_rfl, rfl, rfl, rfl, by kernel_rfl⟩, ⟨_, _, _, Tryz.underlying126⟩, by kernel_rfl⟩
theorem tok127 : Wk.TOk Tryz.prog 127 ⟨.func, 1, 8, [.nilFunc]⟩ := ⟨⟨Tryz.t127, _, by kernel_rfl, rfl, rfl, rfl, by kernel_rfl⟩, ⟨_, _, _, Tryz.underlying127⟩, by kernel_rfl⟩
theorem tok128 : Wk.TOk Tryz.prog 128 ⟨.func, 1, 8, [.nilFunc]⟩ := ⟨⟨Tryz.t128, _, by kernel_rfl, rfl, rfl, rfl, by kernel_rfl⟩, ⟨_, _, _, Tryz.underlying128⟩, by kernel_rfl⟩
theorem tok130 : Wk.TOk Tryz.prog 130 ⟨.func, 1, 8, [.nilFunc]⟩ := ⟨⟨Tryz.t130, _, by kernel_rfl, rfl, rfl, rfl, by kernel_rfl⟩, ⟨_, _, _, Tryz.underlying130⟩, by kernel_rfl⟩
theorem tok131 : Wk.TOk Tryz.prog 131 ⟨.func, 1, 8, [.nilFunc]⟩ := ⟨⟨Tryz.t131, _, by kernel_rfl, rfl, rfl, rfl, by kernel_rfl⟩, ⟨_, _, _, Tryz.underlying131⟩, by kernel_rfl⟩
theorem tok133 : Wk.TOk Tryz.prog 133 ⟨.func, 1, 8, [.nilFunc]⟩ := ⟨⟨Tryz.t133, _, by kernel_rfl, rfl, rfl, rfl, by kernel_rfl⟩, ⟨_, _, _, Tryz.underlying133⟩, by kernel_rfl⟩
theorem tok134 : Wk.TOk Tryz.prog 134 ⟨.func, 1, 8, [.nilFunc]⟩ := ⟨⟨Tryz.t134, _, by kernel_rfl, rfl, rfl, rfl, by kernel_rfl⟩, ⟨_, _, _, Tryz.underlying134⟩, by kernel_rfl⟩
theorem tok135 : Wk.TOk Tryz.prog 135 ⟨.strct [(0, 1, 134)], 1, 8, [.nilFunc]⟩ := ⟨⟨Tryz.t135, _, by kernel_rfl, rfl, rfl, rfl, by kernel_rfl⟩, ⟨_, Tryz.underlying135, by kernel_rfl, Tryz.stoodInHeld135, by kernel_rfl⟩, by kernel_rfl⟩
theorem tok136 : Wk.TOk Tryz.prog 136 ⟨.strct [(0, 1, 134)], 1, 8, [.nilFunc]⟩ := ⟨⟨Tryz.t136, _, by kernel_rfl, rfl, rfl, rfl, by kernel_rfl⟩, ⟨_, Tryz.underlying136, by kernel_rfl, Tryz.stoodInHeld136, by kernel_rfl⟩, by kernel_rfl⟩
theorem tok137 : Wk.TOk Tryz.prog 137 ⟨.func, 1, 8, [.nilFunc]⟩ := ⟨⟨Tryz.t137, _, by kernel_rfl, rfl, rfl, rfl, by kernel_rfl⟩, ⟨_, _, _, Tryz.underlying137⟩, by kernel_rfl⟩
theorem tok139 : Wk.TOk Tryz.prog 139 ⟨.func, 1, 8, [.nilFunc]⟩ := ⟨⟨Tryz.t139, _, by kernel_rfl, rfl, rfl, rfl, by kernel_rfl⟩, ⟨_, _, _, Tryz.underlying139⟩, by kernel_rfl⟩
theorem tok140 : Wk.TOk Tryz.prog 140 ⟨.func, 1, 8, [.nilFunc]⟩ := ⟨⟨Tryz.t140, _, by kernel_rfl, rfl, rfl, rfl, by kernel_rfl⟩, ⟨_, _, _, Tryz.underlying140⟩, by kernel_rfl⟩
theorem tok141 : Wk.TOk Tryz.prog 141 ⟨.func, 1, 8, [.nilFunc]⟩ := ⟨⟨Tryz.t141, _, by kernel_rfl, rfl, rfl, rfl, by kernel_rfl⟩, ⟨_, _, _, Tryz.underlying141⟩, by kernel_rfl⟩
theorem tok142 : Wk.TOk Tryz.prog 142 ⟨.func, 1, 8, [.nilFunc]⟩ := ⟨⟨Tryz.t142, _, by kernel_rfl, rfl, rfl, rfl, by kernel_rfl⟩, ⟨_, _, _, Tryz.underlying142⟩, by kernel_rfl⟩
theorem tok143 : Wk.TOk Tryz.prog 143 ⟨.func, 1, 8, [.nilFunc]⟩ := ⟨⟨Tryz.t143, _, by kernel_rfl, rfl, rfl, rfl, by kernel_rfl⟩, ⟨_, _, _, Tryz.underlying143⟩, by kernel_rfl⟩
theorem tok144 : Wk.TOk Tryz.prog 144 ⟨.func, 1, 8, [.nilFunc]⟩ := ⟨⟨Tryz.t144, _, by kernel_rfl, rfl, rfl, rfl, by kernel_rfl⟩, ⟨_, _, _, Tryz.underlying144⟩, by kernel_rfl⟩
theorem tok145 : Wk.TOk Tryz.prog 145 ⟨.func, 1, 8, [.nilFunc]⟩ := ⟨⟨Tryz.t145, _, by kernel_rfl, rfl, rfl, rfl, by kernel_rfl⟩, ⟨_, _, _, Tryz.underlying145⟩, by kernel_rfl⟩
theorem tok146 : Wk.TOk Tryz.prog 146 ⟨.func, 1, 8, [.nilFunc]⟩ := ⟨⟨Tryz.t146, _, by kernel_rfl, rfl, rfl, rfl, by kernel_rfl⟩, ⟨_, _, _, Tryz.underlying146⟩, by kernel_rfl⟩
theorem tok147 : Wk.TOk Tryz.prog 147 ⟨.func, 1, 8, [.nilFunc]⟩ := ⟨⟨Tryz.t147, _, by kernel_rfl, rfl, rfl, rfl, by kernel_rfl⟩, ⟨_, _, _, Tryz.underlying147⟩, by kernel_rfl⟩
theorem tok148 : Wk.TOk Tryz.prog 148 ⟨.func, 1, 8, [.nilFunc]⟩ := ⟨⟨Tryz.t148, _, by kernel_rfl, rfl, rfl, rfl, by kernel_rfl⟩, ⟨_, _, _, Tryz.underlying148⟩, by kernel_rfl⟩
theorem tok149 : Wk.TOk Tryz.prog 149 ⟨.strct [(0, 1, 29)], 1, 8, [(.int .i64 0)]⟩ := ⟨⟨Tryz.t149, _, by kernel_rfl, rfl, rfl, rfl, by kernel_rfl⟩, ⟨_, Tryz.underlying149, by kernel_rfl, Tryz.stoodInHeld149, by kernel_rfl⟩, by kernel_rfl⟩
theorem tok150 : Wk.TOk Tryz.prog 150 ⟨.strct [(0, 1, 29)], 1, 8, [(.int .i64 0)]⟩ := ⟨⟨Tryz.t150, _, by kernel_rfl, rfl, rfl, rfl, by kernel_rfl⟩, ⟨_, Tryz.underlying150, by kernel_rfl, Tryz.stoodInHeld150, by kernel_rfl⟩, by kernel_rfl⟩
theorem tok152 : Wk.TOk Tryz.prog 152 ⟨.func, 1, 8, [.nilFunc]⟩ := ⟨⟨Tryz.t152, _, by kernel_rfl, rfl, rfl, rfl, by kernel_rfl⟩, ⟨_, _, _, Tryz.underlying152⟩, by kernel_rfl⟩
theorem tok153 : Wk.TOk Tryz.prog 153 ⟨.func, 1, 8, [.nilFunc]⟩ := ⟨⟨Tryz.t153, _, by kernel_rfl, rfl, rfl, rfl, by kernel_rfl⟩, ⟨_, _, _, Tryz.underlying153⟩, by kernel_rfl⟩
theorem tok154 : Wk.TOk Tryz.prog 154 ⟨.func, 1, 8, [.nilFunc]⟩ := ⟨⟨Tryz.t154, _, by kernel_rfl, rfl, rfl, rfl, by kernel_rfl⟩, ⟨_, _, _, Tryz.underlying154⟩, by kernel_rfl⟩
theorem tok155 : Wk.TOk Tryz.prog 155 ⟨.int .u64, 1, 8, [(.int .u64 0)]⟩ := ⟨⟨Tryz.t155, _, by kernel_rfl, rfl, rfl, rfl, by kernel_rfl⟩, Tryz.underlying155, by kernel_rfl⟩
theorem tok156 : Wk.TOk Tryz.prog 156 ⟨.func, 1, 8, [.nilFunc]⟩ := ⟨⟨Tryz.t156, _, by kernel_rfl, rfl, rfl, rfl, by kernel_rfl⟩, ⟨_, _, _, Tryz.underlying156⟩, by kernel_rfl⟩
theorem tok157 : Wk.TOk Tryz.prog 157 ⟨.func, 1, 8, [.nilFunc]⟩ := ⟨⟨Tryz.t157, _, by kernel_rfl, rfl, rfl, rfl, by kernel_rfl⟩, ⟨_, _, _, Tryz.underlying157⟩, by kernel_rfl⟩
theorem tok158 : Wk.TOk Tryz.prog 158 ⟨.func, 1, 8, [.nilFunc]⟩ := ⟨⟨Tryz.t158, _, by kernel_rfl, rfl, rfl, rfl, by kernel_rfl⟩, ⟨_, _, _, Tryz.underlying158⟩, by kernel_rfl⟩
theorem tok159 : Wk.TOk Tryz.prog 159 ⟨.func, 1, 8, [.nilFunc]⟩ := ⟨⟨Tryz.t159, _, by kernel_rfl, rfl, rfl, rfl, by kernel_rfl⟩, ⟨_, _, _, Tryz.underlying159⟩, by kernel_rfl⟩
theorem tok160 : Wk.TOk Tryz.prog 160 ⟨.ptr 220, 1, 8, [(.pointer none)]⟩ := ⟨⟨Tryz.t160, _, by kernel_rfl, rfl, rfl, rfl, by kernel_rfl⟩, Tryz.underlying160, by kernel_rfl⟩
theorem tok161 : Wk.TOk Tryz.prog 161 ⟨.func, 1, 8, [.nilFunc]⟩ := ⟨⟨Tryz.t161, _, by kernel_rfl, rfl, rfl, rfl, by kernel_rfl⟩, ⟨_, _, _, Tryz.underlying161⟩, by kernel_rfl⟩
theorem tok162 : Wk.TOk Tryz.prog 162 ⟨.strct [(0, 1, 160), (1, 1, 3), (2, 1, 3), (3, 1, 3)], 4, 32, [(.pointer none), (.int .i64 0), (.int .i64 0), (.int .i64 0)]⟩ := ⟨⟨Tryz.t162, _, by kernel_rfl, rfl, rfl, rfl, by kernel_rfl⟩, ⟨_, Tryz.underlying162, by kernel_rfl, Tryz.stoodInHeld162, by kernel_rfl⟩, by kernel_rfl⟩
theorem tok163 : Wk.TOk Tryz.prog 163 ⟨.strct [(0, 1, 160), (1, 1, 3), (2, 1, 3), (3, 1, 3)], 4, 32, [(.pointer none), (.int .i64 0), (.int .i64 0), (.int .i64 0)]⟩ := ⟨⟨Tryz.t163, _, by kernel_rfl, rfl, rfl, rfl, by kernel_rfl⟩, ⟨_, Tryz.underlying163, by kernel_rfl, Tryz.stoodInHeld163, by kernel_rfl⟩, by kernel_rfl⟩
theorem tok164 : Wk.TOk Tryz.prog 164 ⟨.func, 1, 8, [.nilFunc]⟩ := ⟨⟨Tryz.t164, _, by kernel_rfl, rfl, rfl, rfl, by kernel_rfl⟩, ⟨_, _, _, Tryz.underlying164⟩, by kernel_rfl⟩
theorem tok165 : Wk.TOk Tryz.prog 165 ⟨.func, 1, 8, [.nilFunc]⟩ := ⟨⟨Tryz.t165, _, by kernel_rfl, rfl, rfl, rfl, by kernel_rfl⟩, ⟨_, _, _, Tryz.underlying165⟩, by kernel_rfl⟩
theorem tok166 : Wk.TOk Tryz.prog 166 ⟨.func, 1, 8, [.nilFunc]⟩ := ⟨⟨Tryz.t166, _, by kernel_rfl, rfl, rfl, rfl, by kernel_rfl⟩, ⟨_, _, _, Tryz.underlying166⟩, by kernel_rfl⟩
theorem tok167 : Wk.TOk Tryz.prog 167 ⟨.func, 1, 8, [.nilFunc]⟩ := ⟨⟨Tryz.t167, _, by kernel_rfl, rfl, rfl, rfl, by kernel_rfl⟩, ⟨_, _, _, Tryz.underlying167⟩, by kernel_rfl⟩
theorem tok168 : Wk.TOk Tryz.prog 168 ⟨.strct [(0, 1, 9), (1, 1, 3), (2, 1, 3), (3, 1, 165), (4, 1, 166), (5, 1, 167)], 6, 56, [(.string { data := #[] }), (.int .i64 0), (.int .i64 0), .nilFunc, .nilFunc, .nilFunc]⟩ := ⟨⟨Tryz.t168, _, by kernel_rfl, rfl, rfl, rfl, by kernel_rfl⟩, ⟨_, Tryz.underlying168, by kernel_rfl, Tryz.stoodInHeld168, by kernel_rfl⟩, by kernel_rfl⟩
theorem tok169 : Wk.TOk Tryz.prog 169 ⟨.strct [(0, 1, 9), (1, 1, 3), (2, 1, 3), (3, 1, 165), (4, 1, 166), (5, 1, 167)], 6, 56, [(.string { data := #[] }), (.int .i64 0), (.int .i64 0), .nilFunc, .nilFunc, .nilFunc]⟩ := ⟨⟨Tryz.t169, _, by kernel_rfl, rfl, rfl, rfl, by kernel_rfl⟩, ⟨_, Tryz.underlying169, by kernel_rfl, Tryz.stoodInHeld169, by kernel_rfl⟩, by kernel_rfl⟩
theorem tok170 : Wk.TOk Tryz.prog 170 ⟨.map 5 169, 1, 8, [(.map none)]⟩ := ⟨⟨Tryz.t170, _, by kernel_rfl, rfl, rfl, rfl, by kernel_rfl⟩, Tryz.underlying170, by kernel_rfl⟩
theorem tok171 : Wk.TOk Tryz.prog 171 ⟨.func, 1, 8, [.nilFunc]⟩ := ⟨⟨Tryz.t171, _, by kernel_rfl, rfl, rfl, rfl, by kernel_rfl⟩, ⟨_, _, _, Tryz.underlying171⟩, by kernel_rfl⟩
theorem tok172 : Wk.TOk Tryz.prog 172 ⟨.func, 1, 8, [.nilFunc]⟩ := ⟨⟨Tryz.t172, _, by kernel_rfl, rfl, rfl, rfl, by kernel_rfl⟩, ⟨_, _, _, Tryz.underlying172⟩, by kernel_rfl⟩
theorem tok173 : Wk.TOk Tryz.prog 173 ⟨.func, 1, 8, [.nilFunc]⟩ := ⟨⟨Tryz.t173, _, by kernel_rfl, rfl, rfl, rfl, by kernel_rfl⟩, ⟨_, _, _, Tryz.underlying173⟩, by kernel_rfl⟩
theorem tok174 : Wk.TOk Tryz.prog 174 ⟨.strct [], 0, 0, []⟩ := ⟨⟨Tryz.t174, _, by kernel_rfl, rfl, rfl, rfl, by kernel_rfl⟩, ⟨_, Tryz.underlying174, by kernel_rfl, Tryz.stoodInHeld174, by kernel_rfl⟩, by kernel_rfl⟩
theorem tok177 : Wk.TOk Tryz.prog 177 ⟨.func, 1, 8, [.nilFunc]⟩ := ⟨⟨Tryz.t177, _, by kernel_rfl, rfl, rfl, rfl, by kernel_rfl⟩, ⟨_, _, _, Tryz.underlying177⟩, by kernel_rfl⟩
theorem tok178 : Wk.TOk Tryz.prog 178 ⟨.func, 1, 8, [.nilFunc]⟩ := ⟨⟨Tryz.t178, _, by kernel_rfl, rfl, rfl, rfl, by kernel_rfl⟩, ⟨_, _, _, Tryz.underlying178⟩, by kernel_rfl⟩
theorem tok179 : Wk.TOk Tryz.prog 179 ⟨.func, 1, 8, [.nilFunc]⟩ := ⟨⟨Tryz.t179, _, by kernel_rfl, rfl, rfl, rfl, by kernel_rfl⟩, ⟨_, _, _, Tryz.underlying179⟩, by kernel_rfl⟩
theorem tok180 : Wk.TOk Tryz.prog 180 ⟨.func, 1, 8, [.nilFunc]⟩ := ⟨⟨Tryz.t180, _, by kernel_rfl, rfl, rfl, rfl, by kernel_rfl⟩, ⟨_, _, _, Tryz.underlying180⟩, by kernel_rfl⟩
theorem tok181 : Wk.TOk Tryz.prog 181 ⟨.func, 1, 8, [.nilFunc]⟩ := ⟨⟨Tryz.t181, _, by kernel_rfl, rfl, rfl, rfl, by kernel_rfl⟩, ⟨_, _, _, Tryz.underlying181⟩, by kernel_rfl⟩
theorem tok182 : Wk.TOk Tryz.prog 182 ⟨.ptr 124, 1, 8, [(.pointer none)]⟩ := ⟨⟨Tryz.t182, _, by kernel_rfl, rfl, rfl, rfl, by kernel_rfl⟩, Tryz.underlying182, by kernel_rfl⟩
theorem tok183 : Wk.TOk Tryz.prog 183 ⟨.ptr 3, 1, 8, [(.pointer none)]⟩ := ⟨⟨Tryz.t183, _, by kernel_rfl, rfl, rfl, rfl, by kernel_rfl⟩, Tryz.underlying183, by kernel_rfl⟩
theorem tok184 : Wk.TOk Tryz.prog 184 ⟨.strct [(0, 1, 183), (1, 1, 3), (2, 1, 3)], 3, 24, [(.pointer none), (.int .i64 0), (.int .i64 0)]⟩ := ⟨⟨Tryz.t184, _, by kernel_rfl, rfl, rfl, rfl, by kernel_rfl⟩, ⟨_, Tryz.underlying184, by kernel_rfl, Tryz.stoodInHeld184, by kernel_rfl⟩, by kernel_rfl⟩
theorem tok185 : Wk.TOk Tryz.prog 185 ⟨.strct [(0, 1, 183), (1, 1, 3), (2, 1, 3)], 3, 24, [(.pointer none), (.int .i64 0), (.int .i64 0)]⟩ := ⟨⟨Tryz.t185, _, by kernel_rfl, rfl, rfl, rfl, by kernel_rfl⟩, ⟨_, Tryz.underlying185, by kernel_rfl, Tryz.stoodInHeld185, by kernel_rfl⟩, by kernel_rfl⟩
theorem tok187 : Wk.TOk Tryz.prog 187 ⟨.func, 1, 8, [.nilFunc]⟩ := ⟨⟨Tryz.t187, _, by kernel_rfl, rfl, rfl, rfl, by kernel_rfl⟩, ⟨_, _, _, Tryz.underlying187⟩, by kernel_rfl⟩
theorem tok188 : Wk.TOk Tryz.prog 188 ⟨.func, 1, 8, [.nilFunc]⟩ := ⟨⟨Tryz.t188, _, by kernel_rfl, rfl, rfl, rfl, by kernel_rfl⟩, ⟨_, _, _, Tryz.underlying188⟩, by kernel_rfl⟩
theorem tok189 : Wk.TOk Tryz.prog 189 ⟨.func, 1, 8, [.nilFunc]⟩ := ⟨⟨Tryz.t189, _, by kernel_rfl, rfl, rfl, rfl, by kernel_rfl⟩, ⟨_, _, _, Tryz.underlying189⟩, by kernel_rfl⟩
theorem tok190 : Wk.TOk Tryz.prog 190 ⟨.func, 1, 8, [.nilFunc]⟩ := ⟨⟨Tryz.t190, _, by kernel_rfl, rfl, rfl, rfl, by kernel_rfl⟩, ⟨_, _, _, Tryz.underlying190⟩, by kernel_rfl⟩
theorem tok191 : Wk.TOk Tryz.prog 191 ⟨.func, 1, 8, [.nilFunc]⟩ := ⟨⟨Tryz.t191, _, by kernel_rfl, rfl, rfl, rfl, by kernel_rfl⟩, ⟨_, _, _, Tryz.underlying191⟩, by kernel_rfl⟩
theorem tok192 : Wk.TOk Tryz.prog 192 ⟨.func, 1, 8, [.nilFunc]⟩ := ⟨⟨Tryz.t192, _, by kernel_rfl, rfl, rfl, rfl, by kernel_rfl⟩, ⟨_, _, _, Tryz.underlying192⟩, by kernel_rfl⟩
theorem tok193 : Wk.TOk Tryz.prog 193 ⟨.func, 1, 8, [.nilFunc]⟩ := ⟨⟨Tryz.t193, _, by kernel_rfl, rfl, rfl, rfl, by kernel_rfl⟩, ⟨_, _, _, Tryz.underlying193⟩, by kernel_rfl⟩
theorem tok194 : Wk.TOk Tryz.prog 194 ⟨.func, 1, 8, [.nilFunc]⟩ := ⟨⟨Tryz.t194, _, by kernel_rfl, rfl, rfl, rfl, by kernel_rfl⟩, ⟨_, _, _, Tryz.underlying194⟩, by kernel_rfl⟩
theorem tok195 : Wk.TOk Tryz.prog 195 ⟨.func, 1, 8, [.nilFunc]⟩ := ⟨⟨Tryz.t195, _, by kernel_rfl, rfl, rfl, rfl, by kernel_rfl⟩, ⟨_, _, _, Tryz.underlying195⟩, by kernel_rfl⟩
theorem tok196 : Wk.TOk Tryz.prog 196 ⟨.arr 3 9, 3, 48, [(.string { data := #[] }), (.string { data := #[] }), (.string { data := #[] })]⟩ := ⟨⟨Tryz.t196, _, by kernel_rfl, rfl, rfl, rfl, by kernel_rfl⟩, Tryz.underlying196, by kernel_rfl⟩
theorem tok198 : Wk.TOk Tryz.prog 198 ⟨.func, 1, 8, [.nilFunc]⟩ := ⟨⟨Tryz.t198, _, by kernel_rfl, rfl, rfl, rfl, by kernel_rfl⟩, ⟨_, _, _, Tryz.underlying198⟩, by kernel_rfl⟩
theorem tok199 : Wk.TOk Tryz.prog 199 ⟨.func, 1, 8, [.nilFunc]⟩ := ⟨⟨Tryz.t199, _, by kernel_rfl, rfl, rfl, rfl, by kernel_rfl⟩, ⟨_, _, _, Tryz.underlying199⟩, by kernel_rfl⟩
theorem tok200 : Wk.TOk Tryz.prog 200 ⟨.ptr 202, 1, 8, [(.pointer none)]⟩ := ⟨⟨Tryz.t200, _, by kernel_rfl, rfl, rfl, rfl, by kernel_rfl⟩, Tryz.underlying200, by kernel_rfl⟩
theorem tok201 : Wk.TOk Tryz.prog 201 ⟨.strct [(0, 1, 200), (1, 1, 51)], 2, 32, [(.pointer none), (.slice none 0 0)]⟩ := ⟨⟨Tryz.t201, _, by kernel_rfl, rfl, rfl, rfl, by kernel_rfl⟩, ⟨_, Tryz.underlying201, by kernel_rfl, Tryz.stoodInHeld201, by kernel_rfl⟩, by kernel_rfl⟩
theorem tok202 : Wk.TOk Tryz.prog 202 ⟨.strct [(0, 1, 200), (1, 1, 51)], 2, 32, [(.pointer none), (.slice none 0 0)]⟩ := ⟨⟨Tryz.t202, _, by kernel_rfl, rfl, rfl, rfl, by kernel_rfl⟩, ⟨_, Tryz.underlying202, by kernel_rfl, Tryz.stoodInHeld202, by kernel_rfl⟩, by kernel_rfl⟩
theorem tok203 : Wk.TOk Tryz.prog 203 ⟨.iface, 1, 16, [.nilIface]⟩ := ⟨⟨Tryz.t203, _, by kernel_rfl, rfl, rfl, rfl, by kernel_rfl⟩, ⟨_, Tryz.underlying203⟩, by kernel_rfl⟩
theorem tok204 : Wk.TOk Tryz.prog 204 ⟨.iface, 1, 16, [.nilIface]⟩ := ⟨⟨Tryz.t204, _, by kernel_rfl, rfl, rfl, rfl, by kernel_rfl⟩, ⟨_, Tryz.underlying204⟩, by kernel_rfl⟩
theorem tok206 : Wk.TOk Tryz.prog 206 ⟨.func, 1, 8, [.nilFunc]⟩ := ⟨⟨Tryz.t206, _, by kernel_rfl, rfl, rfl, rfl, by kernel_rfl⟩, ⟨_, _, _, Tryz.underlying206⟩, by kernel_rfl⟩
theorem tok207 : Wk.TOk Tryz.prog 207 ⟨.func, 1, 8, [.nilFunc]⟩ := ⟨⟨Tryz.t207, _, by kernel_rfl, rfl, rfl, rfl, by kernel_rfl⟩, ⟨_, _, _, Tryz.underlying207⟩, by kernel_rfl⟩
theorem tok208 : Wk.TOk Tryz.prog 208 ⟨.arr 9 5, 9, 9, [(.int .u8 0), (.int .u8 0), (.int .u8 0), (.int .u8 0), (.int .u8 0), (.int .u8 0), (.int .u8 0), (.int .u8 0), (.int .u8 0)]⟩ := ⟨⟨Tryz.t208, _, by kernel_rfl, rfl, rfl, rfl, by kernel_rfl⟩, Tryz.underlying208, by kernel_rfl⟩
theorem tok209 : Wk.TOk Tryz.prog 209 ⟨.int .u64, 1, 8, [(.int .u64 0)]⟩ := ⟨⟨Tryz.t209, _, by kernel_rfl, rfl, rfl, rfl, by kernel_rfl⟩, Tryz.underlying209, by kernel_rfl⟩
theorem tok210 : Wk.TOk Tryz.prog 210 ⟨.func, 1, 8, [.nilFunc]⟩ := ⟨⟨Tryz.t210, _, by kernel_rfl, rfl, rfl, rfl, by kernel_rfl⟩, ⟨_, _, _, Tryz.underlying210⟩, by kernel_rfl⟩
theorem tok212 : Wk.TOk Tryz.prog 212 ⟨.func, 1, 8, [.nilFunc]⟩ := ⟨⟨Tryz.t212, _, by kernel_rfl, rfl, rfl, rfl, by kernel_rfl⟩, ⟨_, _, _, Tryz.underlying212⟩, by kernel_rfl⟩
theorem tok213 : Wk.TOk Tryz.prog 213 ⟨.func, 1, 8, [.nilFunc]⟩ := ⟨⟨Tryz.t213, _, by kernel_rfl, rfl, rfl, rfl, by kernel_rfl⟩, ⟨_, _, _, Tryz.underlying213⟩, by kernel_rfl⟩
theorem tok214 : Wk.TOk Tryz.prog 214 ⟨.map 3 3, 1, 8, [(.map none)]⟩ := ⟨⟨Tryz.t214, _, by kernel_rfl, rfl, rfl, rfl, by kernel_rfl⟩, Tryz.underlying214, by kernel_rfl⟩
theorem tok216 : Wk.TOk Tryz.prog 216 ⟨.func, 1, 8, [.nilFunc]⟩ := ⟨⟨Tryz.t216, _, by kernel_rfl, rfl, rfl, rfl, by kernel_rfl⟩, ⟨_, _, _, Tryz.underlying216⟩, by kernel_rfl⟩
theorem tok217 : Wk.TOk Tryz.prog 217 ⟨.strct [(0, 1, 3), (1, 1, 155)], 2, 16, [(.int .i64 0), (.int .u64 0)]⟩ := ⟨⟨Tryz.t217, _, by kernel_rfl, rfl, rfl, rfl, by kernel_rfl⟩, ⟨_, Tryz.underlying217, by kernel_rfl, Tryz.stoodInHeld217, by kernel_rfl⟩, by kernel_rfl⟩
theorem tok218 : Wk.TOk Tryz.prog 218 ⟨.strct [(0, 1, 3), (1, 1, 155)], 2, 16, [(.int .i64 0), (.int .u64 0)]⟩ := ⟨⟨Tryz.t218, _, by kernel_rfl, rfl, rfl, rfl, by kernel_rfl⟩, ⟨_, Tryz.underlying218, by kernel_rfl, Tryz.stoodInHeld218, by kernel_rfl⟩, by kernel_rfl⟩
theorem tok219 : Wk.TOk Tryz.prog 219 ⟨.strct [(0, 2, 218)], 2, 16, [(.int .i64 0), (.int .u64 0)]⟩ := ⟨⟨Tryz.t219, _, by kernel_rfl, rfl, rfl, rfl, by kernel_rfl⟩, ⟨_, Tryz.underlying219, by kernel_rfl, Tryz.stoodInHeld219, by kernel_rfl⟩, by kernel_rfl⟩
theorem tok220 : Wk.TOk Tryz.prog 220 ⟨.strct [(0, 2, 218)], 2, 16, [(.int .i64 0), (.int .u64 0)]⟩ := ⟨⟨Tryz.t220, _, by kernel_rfl, rfl, rfl, rfl, by kernel_rfl⟩, ⟨_, Tryz.underlying220, by kernel_rfl, Tryz.stoodInHeld220, by kernel_rfl⟩, by kernel_rfl⟩
theorem tok222 : Wk.TOk Tryz.prog 222 ⟨.ptr 59, 1, 8, [(.pointer none)]⟩ := ⟨⟨Tryz.t222, _, by kernel_rfl, rfl, rfl, rfl, by kernel_rfl⟩, Tryz.underlying222, by kernel_rfl⟩
theorem tok223 : Wk.TOk Tryz.prog 223 ⟨.func, 1, 8, [.nilFunc]⟩ := ⟨⟨Tryz.t223, _, by kernel_rfl, rfl, rfl, rfl, by kernel_rfl⟩, ⟨_, _, _, Tryz.underlying223⟩, by kernel_rfl⟩
theorem tok224 : Wk.TOk Tryz.prog 224 ⟨.func, 1, 8, [.nilFunc]⟩ := ⟨⟨Tryz.t224, _, by kernel_rfl, rfl, rfl, rfl, by kernel_rfl⟩, ⟨_, _, _, Tryz.underlying224⟩, by kernel_rfl⟩
theorem tok225 : Wk.TOk Tryz.prog 225 ⟨.func, 1, 8, [.nilFunc]⟩ := ⟨⟨Tryz.t225, _, by kernel_rfl, rfl, rfl, rfl, by kernel_rfl⟩, ⟨_, _, _, Tryz.underlying225⟩, by kernel_rfl⟩
theorem tok226 : Wk.TOk Tryz.prog 226 ⟨.func, 1, 8, [.nilFunc]⟩ := ⟨⟨Tryz.t226, _, by kernel_rfl, rfl, rfl, rfl, by kernel_rfl⟩, ⟨_, _, _, Tryz.underlying226⟩, by kernel_rfl⟩
theorem tok227 : Wk.TOk Tryz.prog 227 ⟨.func, 1, 8, [.nilFunc]⟩ := ⟨⟨Tryz.t227, _, by kernel_rfl, rfl, rfl, rfl, by kernel_rfl⟩, ⟨_, _, _, Tryz.underlying227⟩, by kernel_rfl⟩
theorem tok228 : Wk.TOk Tryz.prog 228 ⟨.func, 1, 8, [.nilFunc]⟩ := ⟨⟨Tryz.t228, _, by kernel_rfl, rfl, rfl, rfl, by kernel_rfl⟩, ⟨_, _, _, Tryz.underlying228⟩, by kernel_rfl⟩
theorem tok229 : Wk.TOk Tryz.prog 229 ⟨.func, 1, 8, [.nilFunc]⟩ := ⟨⟨Tryz.t229, _, by kernel_rfl, rfl, rfl, rfl, by kernel_rfl⟩, ⟨_, _, _, Tryz.underlying229⟩, by kernel_rfl⟩
theorem tok230 : Wk.TOk Tryz.prog 230 ⟨.slice 185, 1, 24, [(.slice none 0 0)]⟩ := ⟨⟨Tryz.t230, _, by kernel_rfl, rfl, rfl, rfl, by kernel_rfl⟩, Tryz.underlying230, by kernel_rfl⟩
theorem tok231 : Wk.TOk Tryz.prog 231 ⟨.func, 1, 8, [.nilFunc]⟩ := ⟨⟨Tryz.t231, _, by kernel_rfl, rfl, rfl, rfl, by kernel_rfl⟩, ⟨_, _, _, Tryz.underlying231⟩, by kernel_rfl⟩
theorem tok233 : Wk.TOk Tryz.prog 233 ⟨.func, 1, 8, [.nilFunc]⟩ := ⟨⟨Tryz.t233, _, by kernel_rfl, rfl, rfl, rfl, by kernel_rfl⟩, ⟨_, _, _, Tryz.underlying233⟩, by kernel_rfl⟩
theorem tok234 : Wk.TOk Tryz.prog 234 ⟨.strct [], 0, 0, []⟩ := ⟨⟨Tryz.t234, _, by kernel_rfl, rfl, rfl, rfl, by kernel_rfl⟩, ⟨_, Tryz.underlying234, by kernel_rfl, Tryz.stoodInHeld234, by kernel_rfl⟩, by kernel_rfl⟩
theorem tok236 : Wk.TOk Tryz.prog 236 ⟨.func, 1, 8, [.nilFunc]⟩ := ⟨⟨Tryz.t236, _, by kernel_rfl, rfl, rfl, rfl, by kernel_rfl⟩, ⟨_, _, _, Tryz.underlying236⟩, by kernel_rfl⟩
theorem tok237 : Wk.TOk Tryz.prog 237 ⟨.func, 1, 8, [.nilFunc]⟩ := ⟨⟨Tryz.t237, _, by kernel_rfl, rfl, rfl, rfl, by kernel_rfl⟩, ⟨_, _, _, Tryz.underlying237⟩, by kernel_rfl⟩
theorem tok238 : Wk.TOk Tryz.prog 238 ⟨.func, 1, 8, [.nilFunc]⟩ := ⟨⟨Tryz.t238, _, by kernel_rfl, rfl, rfl, rfl, by kernel_rfl⟩, ⟨_, _, _, Tryz.underlying238⟩, by kernel_rfl⟩
theorem tok239 : Wk.TOk Tryz.prog 239 ⟨.func, 1, 8, [.nilFunc]⟩ := ⟨⟨Tryz.t239, _, by kernel_rfl, rfl, rfl, rfl, by kernel_rfl⟩, ⟨_, _, _, Tryz.underlying239⟩, by kernel_rfl⟩
theorem tok240 : Wk.TOk Tryz.prog 240 ⟨.func, 1, 8, [.nilFunc]⟩ := ⟨⟨Tryz.t240, _, by kernel_rfl, rfl, rfl, rfl, by kernel_rfl⟩, ⟨_, _, _, Tryz.underlying240⟩, by kernel_rfl⟩
theorem tok241 : Wk.TOk Tryz.prog 241 ⟨.func, 1, 8, [.nilFunc]⟩ := ⟨⟨Tryz.t241, _, by kernel_rfl, rfl, rfl, rfl, by kernel_rfl⟩, ⟨_, _, _, Tryz.underlying241⟩, by kernel_rfl⟩
theorem tok242 : Wk.TOk Tryz.prog 242 ⟨.func, 1, 8, [.nilFunc]⟩ := ⟨⟨Tryz.t242, _, by kernel_rfl, rfl, rfl, rfl, by kernel_rfl⟩, ⟨_, _, _, Tryz.underlying242⟩, by kernel_rfl⟩
theorem tok243 : Wk.TOk Tryz.prog 243 ⟨.ptr 5, 1, 8, [(.pointer none)]⟩ := ⟨⟨Tryz.t243, _, by kernel_rfl, rfl, rfl, rfl, by kernel_rfl⟩, Tryz.underlying243, by kernel_rfl⟩
theorem tok245 : Wk.TOk Tryz.prog 245 ⟨.func, 1, 8, [.nilFunc]⟩ := ⟨⟨Tryz.t245, _, by kernel_rfl, rfl, rfl, rfl, by kernel_rfl⟩, ⟨_, _, _, Tryz.underlying245⟩, by kernel_rfl⟩
theorem tok247 : Wk.TOk Tryz.prog 247 ⟨.func, 1, 8, [.nilFunc]⟩ := ⟨⟨Tryz.t247, _, by kernel_rfl, rfl, rfl, rfl, by kernel_rfl⟩, ⟨_, _, _, Tryz.underlying247⟩, by kernel_rfl⟩
theorem tok248 : Wk.TOk Tryz.prog 248 ⟨.func, 1, 8, [.nilFunc]⟩ := ⟨⟨Tryz.t248, _, by kernel_rfl, rfl, rfl, rfl, by kernel_rfl⟩, ⟨_, _, _, Tryz.underlying248⟩, by kernel_rfl⟩
theorem tok249 : Wk.TOk Tryz.prog 249 ⟨.func, 1, 8, [.nilFunc]⟩ := ⟨⟨Tryz.t249, _, by kernel_rfl, rfl, rfl, rfl, by kernel_rfl⟩, ⟨_, _, _, Tryz.underlying249⟩, by kernel_rfl⟩
theorem tok250 : Wk.TOk Tryz.prog 250 ⟨.func, 1, 8, [.nilFunc]⟩ := ⟨⟨Tryz.t250, _, by kernel_rfl, rfl, rfl, rfl, by kernel_rfl⟩, ⟨_, _, _, Tryz.underlying250⟩, by kernel_rfl⟩
theorem tok251 : Wk.TOk Tryz.prog 251 ⟨.strct [(0, 1, 29)], 1, 8, [(.int .i64 0)]⟩ := ⟨⟨Tryz.t251, _, by kernel_rfl, rfl, rfl, rfl, by kernel_rfl⟩, ⟨_, Tryz.underlying251, by kernel_rfl, Tryz.stoodInHeld251, by kernel_rfl⟩, by kernel_rfl⟩
theorem tok252 : Wk.TOk Tryz.prog 252 ⟨.strct [(0, 1, 29)], 1, 8, [(.int .i64 0)]⟩ := ⟨⟨Tryz.t252, _, by kernel_rfl, rfl, rfl, rfl, by kernel_rfl⟩, ⟨_, Tryz.underlying252, by kernel_rfl, Tryz.stoodInHeld252, by kernel_rfl⟩, by kernel_rfl⟩
theorem tok255 : Wk.TOk Tryz.prog 255 ⟨.func, 1, 8, [.nilFunc]⟩ := ⟨⟨Tryz.t255, _, by kernel_rfl, rfl, rfl, rfl, by kernel_rfl⟩, ⟨_, _, _, Tryz.underlying255⟩, by kernel_rfl⟩
theorem tok256 : Wk.TOk Tryz.prog 256 ⟨.func, 1, 8, [.nilFunc]⟩ := ⟨⟨Tryz.t256, _, by kernel_rfl, rfl, rfl, rfl, by kernel_rfl⟩, ⟨_, _, _, Tryz.underlying256⟩, by kernel_rfl⟩
theorem tok257 : Wk.TOk Tryz.prog 257 ⟨.func, 1, 8, [.nilFunc]⟩ := ⟨⟨Tryz.t257, _, by kernel_rfl, rfl, rfl, rfl, by kernel_rfl⟩, ⟨_, _, _, Tryz.underlying257⟩, by kernel_rfl⟩
theorem tok258 : Wk.TOk Tryz.prog 258 ⟨.func, 1, 8, [.nilFunc]⟩ := ⟨⟨Tryz.t258, _, by kernel_rfl, rfl, rfl, rfl, by kernel_rfl⟩, ⟨_, _, _, Tryz.underlying258⟩, by kernel_rfl⟩
theorem tok259 : Wk.TOk Tryz.prog 259 ⟨.func, 1, 8, [.nilFunc]⟩ := ⟨⟨Tryz.t259, _, by kernel_rfl, rfl, rfl, rfl, by kernel_rfl⟩, ⟨_, _, _, Tryz.underlying259⟩, by kernel_rfl⟩
theorem tok260 : Wk.TOk Tryz.prog 260 ⟨.func, 1, 8, [.nilFunc]⟩ := ⟨⟨Tryz.t260, _, by kernel_rfl, rfl, rfl, rfl, by kernel_rfl⟩, ⟨_, _, _, Tryz.underlying260⟩, by kernel_rfl⟩
theorem tok263 : Wk.TOk Tryz.prog 263 ⟨.arr 0 16, 0, 0, []⟩ := ⟨⟨Tryz.t263, _, by kernel_rfl, rfl, rfl, rfl, by kernel_rfl⟩, Tryz.underlying263, by kernel_rfl⟩
theorem tok266 : Wk.TOk Tryz.prog 266 ⟨.int .u32, 1, 4, [(.int .u32 0)]⟩ := ⟨⟨Tryz.t266, _, by kernel_rfl, rfl, rfl, rfl, by kernel_rfl⟩, Tryz.underlying266, by kernel_rfl⟩
theorem tok267 : Wk.TOk Tryz.prog 267 ⟨.int .u8, 1, 1, [(.int .u8 0)]⟩ := ⟨⟨Tryz.t267, _, by kernel_rfl, rfl, rfl, rfl, by kernel_rfl⟩, Tryz.underlying267, by kernel_rfl⟩
theorem tok268 : Wk.TOk Tryz.prog 268 ⟨.int .u8, 1, 1, [(.int .u8 0)]⟩ := ⟨⟨Tryz.t268, _, by kernel_rfl, rfl, rfl, rfl, by kernel_rfl⟩, Tryz.underlying268, by kernel_rfl⟩
theorem tok269 : Wk.TOk Tryz.prog 269 ⟨.func, 1, 8, [.nilFunc]⟩ := ⟨⟨Tryz.t269, _, by kernel_rfl, rfl, rfl, rfl, by kernel_rfl⟩, ⟨_, _, _, Tryz.underlying269⟩, by kernel_rfl⟩
theorem tok270 : Wk.TOk Tryz.prog 270 ⟨.int .i32, 1, 4, [(.int .i32 0)]⟩ := ⟨⟨Tryz.t270, _, by kernel_rfl, rfl, rfl, rfl, by kernel_rfl⟩, Tryz.underlying270, by kernel_rfl⟩
theorem tok271 : Wk.TOk Tryz.prog 271 ⟨.int .i32, 1, 4, [(.int .i32 0)]⟩ := ⟨⟨Tryz.t271, _, by kernel_rfl, rfl, rfl, rfl, by kernel_rfl⟩, Tryz.underlying271, by kernel_rfl⟩
theorem tok274 : Wk.TOk Tryz.prog 274 ⟨.func, 1, 8, [.nilFunc]⟩ := ⟨⟨Tryz.t274, _, by kernel_rfl, rfl, rfl, rfl, by kernel_rfl⟩, ⟨_, _, _, Tryz.underlying274⟩, by kernel_rfl⟩
theorem tok275 : Wk.TOk Tryz.prog 275 ⟨.func, 1, 8, [.nilFunc]⟩ := ⟨⟨Tryz.t275, _, by kernel_rfl, rfl, rfl, rfl, by kernel_rfl⟩, ⟨_, _, _, Tryz.underlying275⟩, by kernel_rfl⟩
theorem tok276 : Wk.TOk Tryz.prog 276 ⟨.func, 1, 8, [.nilFunc]⟩ := ⟨⟨Tryz.t276, _, by kernel_rfl, rfl, rfl, rfl, by kernel_rfl⟩, ⟨_, _, _, Tryz.underlying276⟩, by kernel_rfl⟩
theorem tok277 : Wk.TOk Tryz.prog 277 ⟨.ptr 286, 1, 8, [(.pointer none)]⟩ := ⟨⟨Tryz.t277, _, by kernel_rfl, rfl, rfl, rfl, by kernel_rfl⟩, Tryz.underlying277, by kernel_rfl⟩
theorem tok278 : Wk.TOk Tryz.prog 278 ⟨.func, 1, 8, [.nilFunc]⟩ := ⟨⟨Tryz.t278, _, by kernel_rfl, rfl, rfl, rfl, by kernel_rfl⟩, ⟨_, _, _, Tryz.underlying278⟩, by kernel_rfl⟩
theorem tok279 : Wk.TOk Tryz.prog 279 ⟨.func, 1, 8, [.nilFunc]⟩ := ⟨⟨Tryz.t279, _, by kernel_rfl, rfl, rfl, rfl, by kernel_rfl⟩, ⟨_, _, _, Tryz.underlying279⟩, by kernel_rfl⟩
theorem tok280 : Wk.TOk Tryz.prog 280 ⟨.func, 1, 8, [.nilFunc]⟩ := ⟨⟨Tryz.t280, _, by kernel_rfl, rfl, rfl, rfl, by kernel_rfl⟩, ⟨_, _, _, Tryz.underlying280⟩, by kernel_rfl⟩
theorem tok281 : Wk.TOk Tryz.prog 281 ⟨.ptr 292, 1, 8, [(.pointer none)]⟩ := ⟨⟨Tryz.t281, _, by kernel_rfl, rfl, rfl, rfl, by kernel_rfl⟩, Tryz.underlying281, by kernel_rfl⟩
theorem tok282 : Wk.TOk Tryz.prog 282 ⟨.strct [(0, 1, 281)], 1, 8, [(.pointer none)]⟩ := ⟨⟨Tryz.t282, _, by kernel_rfl, rfl, rfl, rfl, by kernel_rfl⟩, ⟨_, Tryz.underlying282, by kernel_rfl, Tryz.stoodInHeld282, by kernel_rfl⟩, by kernel_rfl⟩
theorem tok283 : Wk.TOk Tryz.prog 283 ⟨.strct [(0, 1, 281)], 1, 8, [(.pointer none)]⟩ := ⟨⟨Tryz.t283, _, by kernel_rfl, rfl, rfl, rfl, by kernel_rfl⟩, ⟨_, Tryz.underlying283, by kernel_rfl, Tryz.stoodInHeld283, by kernel_rfl⟩, by kernel_rfl⟩
theorem tok284 : Wk.TOk Tryz.prog 284 ⟨.func, 1, 8, [.nilFunc]⟩ := ⟨⟨Tryz.t284, _, by kernel_rfl, rfl, rfl, rfl, by kernel_rfl⟩, ⟨_, _, _, Tryz.underlying284⟩, by kernel_rfl⟩
theorem tok285 : Wk.TOk Tryz.prog 285 ⟨.strct [(0, 1, 283), (1, 1, 283)], 2, 16, [(.pointer none), (.pointer none)]⟩ := ⟨⟨Tryz.t285, _, by kernel_rfl, rfl, rfl, rfl, by kernel_rfl⟩, ⟨_, Tryz.underlying285, by kernel_rfl, Tryz.stoodInHeld285, by kernel_rfl⟩, by kernel_rfl⟩
theorem tok286 : Wk.TOk Tryz.prog 286 ⟨.strct [(0, 1, 283), (1, 1, 283)], 2, 16, [(.pointer none), (.pointer none)]⟩ := ⟨⟨Tryz.t286, _, by kernel_rfl, rfl, rfl, rfl, by kernel_rfl⟩, ⟨_, Tryz.underlying286, by kernel_rfl, Tryz.stoodInHeld286, by kernel_rfl⟩, by kernel_rfl⟩
theorem tok287 : Wk.TOk Tryz.prog 287 ⟨.func, 1, 8, [.nilFunc]⟩ := ⟨⟨Tryz.t287, _, by kernel_rfl, rfl, rfl, rfl, by kernel_rfl⟩, ⟨_, _, _, Tryz.underlying287⟩, by kernel_rfl⟩
theorem tok288 : Wk.TOk Tryz.prog 288 ⟨.func, 1, 8, [.nilFunc]⟩ := ⟨⟨Tryz.t288, _, by kernel_rfl, rfl, rfl, rfl, by kernel_rfl⟩, ⟨_, _, _, Tryz.underlying288⟩, by kernel_rfl⟩
theorem tok289 : Wk.TOk Tryz.prog 289 ⟨.arr 8 266, 8, 32, [(.int .u32 0), (.int .u32 0), (.int .u32 0), (.int .u32 0), (.int .u32 0), (.int .u32 0), (.int .u32 0), (.int .u32 0)]⟩ := ⟨⟨Tryz.t289, _, by kernel_rfl, rfl, rfl, rfl, by kernel_rfl⟩, Tryz.underlying289, by kernel_rfl⟩
theorem tok290 : Wk.TOk Tryz.prog 290 ⟨.arr 64 5, 64, 64, [(.int .u8 0), (.int .u8 0), (.int .u8 0), (.int .u8 0), (.int .u8 0), (.int .u8 0), (.int .u8 0), (.int .u8 0), (.int .u8 0), (.int .u8 0), (.int .u8 0), (.int .u8 0), (.int .u8 0), (.int .u8 0), (.int .u8 0), (.int .u8 0), (.int .u8 0), (.int .u8 0), (.int .u8 0), (.int .u8 0), (.int .u8 0), (.int .u8 0), (.int .u8 0), (.int .u8 0), (.int .u8 0), (.int .u8 0), (.int .u8 0), (.int .u8 0), (.int .u8 0), (.int .u8 0), (.int .u8 0), (.int .u8 0), (.int .u8 0), (.int .u8 0), (.int .u8 0), (.int .u8 0), (.int .u8 0), (.int .u8 0), (.int .u8 0), (.int .u8 0), (.int .u8 0), (.int .u8 0), (.int .u8 0), (.int .u8 0), (.int .u8 0), (.int .u8 0), (.int .u8 0), (.int .u8 0), (.int .u8 0), (.int .u8 0), (.int .u8 0), (.int .u8 0), (.int .u8 0), (.int .u8 0), (.int .u8 0), (.int .u8 0), (.int .u8 0), (.int .u8 0), (.int .u8 0), (.int .u8 0), (.int .u8 0), (.int .u8 0), (.int .u8 0), (.int .u8 0)]⟩ := ⟨⟨Tryz.t290, _, by kernel_rfl, rfl, rfl, rfl, by kernel_rfl⟩, Tryz.underlying290, by kernel_rfl⟩
theorem tok291 : Wk.TOk Tryz.prog 291 ⟨.strct [(0, 8, 289), (8, 64, 290), (72, 1, 3)], 73, 104, [(.int .u32 0), (.int .u32 0), (.int .u32 0), (.int .u32 0), (.int .u32 0), (.int .u32 0), (.int .u32 0), (.int .u32 0), (.int .u8 0), (.int .u8 0), (.int .u8 0), (.int .u8 0), (.int .u8 0), (.int .u8 0), (.int .u8 0), (.int .u8 0), (.int .u8 0), (.int .u8 0), (.int .u8 0), (.int .u8 0), (.int .u8 0), (.int .u8 0), (.int .u8 0), (.int .u8 0), (.int .u8 0), (.int .u8 0), (.int .u8 0), (.int .u8 0), (.int .u8 0), (.int .u8 0), (.int .u8 0), (.int .u8 0), (.int .u8 0), (.int .u8 0), (.int .u8 0), (.int .u8 0), (.int .u8 0), (.int .u8 0), (.int .u8 0), (.int .u8 0), (.int .u8 0), (.int .u8 0), (.int .u8 0), (.int .u8 0), (.int .u8 0), (.int .u8 0), (.int .u8 0), (.int .u8 0), (.int .u8 0), (.int .u8 0), (.int .u8 0), (.int .u8 0), (.int .u8 0), (.int .u8 0), (.int .u8 0), (.int .u8 0), (.int .u8 0), (.int .u8 0), (.int .u8 0), (.int .u8 0), (.int .u8 0), (.int .u8 0), (.int .u8 0), (.int .u8 0), (.int .u8 0), (.int .u8 0), (.int .u8 0), (.int .u8 0), (.int .u8 0), (.int .u8 0), (.int .u8 0), (.int .u8 0), (.int .i64 0)]⟩ := ⟨⟨Tryz.t291, _, by kernel_rfl, rfl, rfl, rfl, by kernel_rfl⟩, ⟨_, Tryz.underlying291, by kernel_rfl, Tryz.stoodInHeld291, by kernel_rfl⟩, by kernel_rfl⟩
theorem tok292 : Wk.TOk Tryz.prog 292 ⟨.strct [(0, 8, 289), (8, 64, 290), (72, 1, 3)], 73, 104, [(.int .u32 0), (.int .u32 0), (.int .u32 0), (.int .u32 0), (.int .u32 0), (.int .u32 0), (.int .u32 0), (.int .u32 0), (.int .u8 0), (.int .u8 0), (.int .u8 0), (.int .u8 0), (.int .u8 0), (.int .u8 0), (.int .u8 0), (.int .u8 0), (.int .u8 0), (.int .u8 0), (.int .u8 0), (.int .u8 0), (.int .u8 0), (.int .u8 0), (.int .u8 0), (.int .u8 0), (.int .u8 0), (.int .u8 0), (.int .u8 0), (.int .u8 0), (.int .u8 0), (.int .u8 0), (.int .u8 0), (.int .u8 0), (.int .u8 0), (.int .u8 0), (.int .u8 0), (.int .u8 0), (.int .u8 0), (.int .u8 0), (.int .u8 0), (.int .u8 0), (.int .u8 0), (.int .u8 0), (.int .u8 0), (.int .u8 0), (.int .u8 0), (.int .u8 0), (.int .u8 0), (.int .u8 0), (.int .u8 0), (.int .u8 0), (.int .u8 0), (.int .u8 0), (.int .u8 0), (.int .u8 0), (.int .u8 0), (.int .u8 0), (.int .u8 0), (.int .u8 0), (.int .u8 0), (.int .u8 0), (.int .u8 0), (.int .u8 0), (.int .u8 0), (.int .u8 0), (.int .u8 0), (.int .u8 0), (.int .u8 0), (.int .u8 0), (.int .u8 0), (.int .u8 0), (.int .u8 0), (.int .u8 0), (.int .i64 0)]⟩ := ⟨⟨Tryz.t292, _, by kernel_rfl, rfl, rfl, rfl, by kernel_rfl⟩, ⟨_, Tryz.underlying292, by kernel_rfl, Tryz.stoodInHeld292, by kernel_rfl⟩, by kernel_rfl⟩
theorem tok293 : Wk.TOk Tryz.prog 293 ⟨.arr 16 266, 16, 64, [(.int .u32 0), (.int .u32 0), (.int .u32 0), (.int .u32 0), (.int .u32 0), (.int .u32 0), (.int .u32 0), (.int .u32 0), (.int .u32 0), (.int .u32 0), (.int .u32 0), (.int .u32 0), (.int .u32 0), (.int .u32 0), (.int .u32 0), (.int .u32 0)]⟩ := ⟨⟨Tryz.t293, _, by kernel_rfl, rfl, rfl, rfl, by kernel_rfl⟩, Tryz.underlying293, by kernel_rfl⟩
theorem tok294 : Wk.TOk Tryz.prog 294 ⟨.arr 64 266, 64, 256, [(.int .u32 0), (.int .u32 0), (.int .u32 0), (.int .u32 0), (.int .u32 0), (.int .u32 0), (.int .u32 0), (.int .u32 0), (.int .u32 0), (.int .u32 0), (.int .u32 0), (.int .u32 0), (.int .u32 0), (.int .u32 0), (.int .u32 0), (.int .u32 0), (.int .u32 0), (.int .u32 0), (.int .u32 0), (.int .u32 0), (.int .u32 0), (.int .u32 0), (.int .u32 0), (.int .u32 0), (.int .u32 0), (.int .u32 0), (.int .u32 0), (.int .u32 0), (.int .u32 0), (.int .u32 0), (.int .u32 0), (.int .u32 0), (.int .u32 0), (.int .u32 0), (.int .u32 0), (.int .u32 0), (.int .u32 0), (.int .u32 0), (.int .u32 0), (.int .u32 0), (.int .u32 0), (.int .u32 0), (.int .u32 0), (.int .u32 0), (.int .u32 0), (.int .u32 0), (.int .u32 0), (.int .u32 0), (.int .u32 0), (.int .u32 0), (.int .u32 0), (.int .u32 0), (.int .u32 0), (.int .u32 0), (.int .u32 0), (.int .u32 0), (.int .u32 0), (.int .u32 0), (.int .u32 0), (.int .u32 0), (.int .u32 0), (.int .u32 0), (.int .u32 0), (.int .u32 0)]⟩ := ⟨⟨Tryz.t294, _, by kernel_rfl, rfl, rfl, rfl, by kernel_rfl⟩, Tryz.underlying294, by kernel_rfl⟩
theorem tok295 : Wk.TOk Tryz.prog 295 ⟨.func, 1, 8, [.nilFunc]⟩ := ⟨⟨Tryz.t295, _, by kernel_rfl, rfl, rfl, rfl, by kernel_rfl⟩, ⟨_, _, _, Tryz.underlying295⟩, by kernel_rfl⟩
theorem okT : Wk.Ok Tryz.prog TT := Wk.ok_of TTl ⟨tok1, tok2, tok3, tok4, tok5, tok6, tok7, tok8, tok9, tok10, tok11, tok12, tok15, tok16, tok17, tok20, tok21, tok22, tok23, tok24, tok25, tok26, tok27, tok28, tok29, tok31, tok32, tok33, tok34, tok36, tok37, tok39, tok41, tok42, tok43, tok44, tok45, tok46, tok48, tok49, tok50, tok51, tok52, tok53, tok55, tok56, tok57, tok58, tok59, tok60, tok61, tok62, tok64, tok65, tok66, tok67, tok68, tok69, tok70, tok71, tok72, tok73, tok74, tok75, tok76, tok77, tok78, tok79, tok80, tok81, tok82, tok83, tok84, tok86, tok87, tok88, tok89, tok90, tok91, tok92, tok93, tok94, tok95, tok96, tok97, tok98, tok99, tok100, tok101, tok102, tok103, tok104, tok105, tok106, tok107, tok109, tok110, tok111, tok112, tok113, tok115, tok116, tok117, tok118, tok119, tok120, tok122, tok123, tok124, tok126, tok127, tok128, tok130, tok131, tok133, tok134, tok135, tok136, tok137, tok139, tok140, tok141, tok142, tok143, tok144, tok145, tok146, tok147, tok148, tok149, tok150, tok152, tok153, tok154, tok155, tok156, tok157, tok158, tok159, tok160, tok161, tok162, tok163, tok164, tok165, tok166, tok167, tok168, tok169, tok170, tok171, tok172, tok173, tok174, tok177, tok178, tok179, tok180, tok181, tok182, tok183, tok184, tok185, tok187, tok188, tok189, tok190, tok191, tok192, tok193, tok194, tok195, tok196, tok198, tok199, tok200, tok201, tok202, tok203, tok204, tok206, tok207, tok208, tok209, tok210, tok212, tok213, tok214, tok216, tok217, tok218, tok219, tok220, tok222, tok223, tok224, tok225, tok226, tok227, tok228, tok229, tok230, tok231, tok233, tok234, tok236, tok237, tok238, tok239, tok240, tok241, tok242, tok243, tok245, tok247, tok248, tok249, tok250, tok251, tok252, tok255, tok256, tok257, tok258, tok259, tok260, tok263, tok266, tok267, tok268, tok269, tok270, tok271, tok274, tok275, tok276, tok277, tok278, tok279, tok280, tok281, tok282, tok283, tok284, tok285, tok286, tok287, tok288, tok289, tok290, tok291, tok292, tok293, tok294, tok295, trivial⟩ (by kernel_rfl) (by kernel_rfl)
theorem fok6 : Wk.FOk Tryz.prog 6 := ⟨Tryz.f6, Tryz.func6, by kernel_rfl, by kernel_rfl⟩
theorem fok7 : Wk.FOk Tryz.prog 7 := ⟨Tryz.f7, Tryz.func7, by kernel_rfl, by kernel_rfl⟩
theorem fok8 : Wk.FOk Tryz.prog 8 := ⟨Tryz.f8, Tryz.func8, by kernel_rfl, by kernel_rfl⟩
theorem fok9 : Wk.FOk Tryz.prog 9 := ⟨Tryz.f9, Tryz.func9, by kernel_rfl, by kernel_rfl⟩
theorem fok10 : Wk.FOk Tryz.prog 10 := ⟨Tryz.f10, Tryz.func10, by kernel_rfl, by kernel_rfl⟩
theorem fok11 : Wk.FOk Tryz.prog 11 := ⟨Tryz.f11, Tryz.func11, by kernel_rfl, by kernel_rfl⟩
theorem fok12 : Wk.FOk Tryz.prog 12 := ⟨Tryz.f12, Tryz.func12, by kernel_rfl, by kernel_rfl⟩
theorem fok13 : Wk.FOk Tryz.prog 13 := ⟨Tryz.f13, Tryz.func13, by kernel_rfl, by kernel_rfl⟩
theorem fok14 : Wk.FOk Tryz.prog 14 := ⟨Tryz.f14, Tryz.func14, by kernel_rfl, by kernel_rfl⟩
theorem fok15 : Wk.FOk Tryz.prog 15 := ⟨Tryz.f15, Tryz.func15, by kernel_rfl, by kernel_rfl⟩
theorem fok16 : Wk.FOk Tryz.prog 16 := ⟨Tryz.f16, Tryz.func16, by kernel_rfl, by kernel_rfl⟩
theorem fok22 : Wk.FOk Tryz.prog 22 := ⟨Tryz.f22, Tryz.func22, by kernel_rfl, by kernel_rfl⟩
theorem fok27 : Wk.FOk Tryz.prog 27 := ⟨Tryz.f27, Tryz.func27, by kernel_rfl, by kernel_rfl⟩
theorem fok28 : Wk.FOk Tryz.prog 28 := ⟨Tryz.f28, Tryz.func28, by kernel_rfl, by kernel_rfl⟩
theorem fok29 : Wk.FOk Tryz.prog 29 := ⟨Tryz.f29, Tryz.func29, by kernel_rfl, by kernel_rfl⟩
theorem fok30 : Wk.FOk Tryz.prog 30 := ⟨Tryz.f30, Tryz.func30, by kernel_rfl, by kernel_rfl⟩
theorem fok31 : Wk.FOk Tryz.prog 31 := ⟨Tryz.f31, Tryz.func31, by kernel_rfl, by kernel_rfl⟩
theorem fok32 : Wk.FOk Tryz.prog 32 := ⟨Tryz.f32, Tryz.func32, by kernel_rfl, by kernel_rfl⟩
theorem fok33 : Wk.FOk Tryz.prog 33 := ⟨Tryz.f33, Tryz.func33, by kernel_rfl, by kernel_rfl⟩
theorem fok34 : Wk.FOk Tryz.prog 34 := ⟨Tryz.f34, Tryz.func34, by kernel_rfl, by kernel_rfl⟩
theorem fok35 : Wk.FOk Tryz.prog 35 := ⟨Tryz.f35, Tryz.func35, by kernel_rfl, by kernel_rfl⟩
theorem fok36 : Wk.FOk Tryz.prog 36 := ⟨Tryz.f36, Tryz.func36, by kernel_rfl, by kernel_rfl⟩
theorem fok37 : Wk.FOk Tryz.prog 37 := ⟨Tryz.f37, Tryz.func37, by kernel_rfl, by kernel_rfl⟩
theorem fok38 : Wk.FOk Tryz.prog 38 := ⟨Tryz.f38, Tryz.func38, by kernel_rfl, by kernel_rfl⟩
theorem fok39 : Wk.FOk Tryz.prog 39 := ⟨Tryz.f39, Tryz.func39, by kernel_rfl, by kernel_rfl⟩
theorem fok40 : Wk.FOk Tryz.prog 40 := ⟨Tryz.f40, Tryz.func40, by kernel_rfl, by kernel_rfl⟩
theorem fok41 : Wk.FOk Tryz.prog 41 := ⟨Tryz.f41, Tryz.func41, by kernel_rfl, by kernel_rfl⟩
theorem fok42 : Wk.FOk Tryz.prog 42 := ⟨Tryz.f42, Tryz.func42, by kernel_rfl, by kernel_rfl⟩
theorem fok43 : Wk.FOk Tryz.prog 43 := ⟨Tryz.f43, Tryz.func43, by kernel_rfl, by kernel_rfl⟩
theorem fok44 : Wk.FOk Tryz.prog 44 := ⟨Tryz.f44, Tryz.func44, by kernel_rfl, by kernel_rfl⟩
theorem fok45 : Wk.FOk Tryz.prog 45 := ⟨Tryz.f45, Tryz.func45, by kernel_rfl, by kernel_rfl⟩
theorem fok46 : Wk.FOk Tryz.prog 46 := ⟨Tryz.f46, Tryz.func46, by kernel_rfl, by kernel_rfl⟩
theorem fok47 : Wk.FOk Tryz.prog 47 := ⟨Tryz.f47, Tryz.func47, by kernel_rfl, by kernel_rfl⟩
theorem fok48 : Wk.FOk Tryz.prog 48 := ⟨Tryz.f48, Tryz.func48, by kernel_rfl, by kernel_rfl⟩
theorem fok49 : Wk.FOk Tryz.prog 49 := ⟨Tryz.f49, Tryz.func49, by kernel_rfl, by kernel_rfl⟩
theorem fok63 : Wk.FOk Tryz.prog 63 := ⟨Tryz.f63, Tryz.func63, by kernel_rfl, by kernel_rfl⟩
theorem fok64 : Wk.FOk Tryz.prog 64 := ⟨Tryz.f64, Tryz.func64, by kernel_rfl, by kernel_rfl⟩
theorem fok65 : Wk.FOk Tryz.prog 65 := ⟨Tryz.f65, Tryz.func65, by kernel_rfl, by kernel_rfl⟩
theorem fok66 : Wk.FOk Tryz.prog 66 := ⟨Tryz.f66, Tryz.func66, by kernel_rfl, by kernel_rfl⟩
theorem fok67 : Wk.FOk Tryz.prog 67 := ⟨Tryz.f67, Tryz.func67, by kernel_rfl, by kernel_rfl⟩
theorem fok68 : Wk.FOk Tryz.prog 68 := ⟨Tryz.f68, Tryz.func68, by kernel_rfl, by kernel_rfl⟩
theorem fok69 : Wk.FOk Tryz.prog 69 := ⟨Tryz.f69, Tryz.func69, by kernel_rfl, by kernel_rfl⟩
theorem fok70 : Wk.FOk Tryz.prog 70 := ⟨Tryz.f70, Tryz.func70, by kernel_rfl, by kernel_rfl⟩
theorem fok71 : Wk.FOk Tryz.prog 71 := ⟨Tryz.f71, Tryz.func71, by kernel_rfl, by kernel_rfl⟩
theorem fok72 : Wk.FOk Tryz.prog 72 := ⟨Tryz.f72, Tryz.func72, by kernel_rfl, by kernel_rfl⟩
theorem fok73 : Wk.FOk Tryz.prog 73 := ⟨Tryz.f73, Tryz.func73, by kernel_rfl, by kernel_rfl⟩
theorem fok74 : Wk.FOk Tryz.prog 74 := ⟨Tryz.f74, Tryz.func74, by kernel_rfl, by kernel_rfl⟩
theorem fok75 : Wk.FOk Tryz.prog 75 := ⟨Tryz.f75, Tryz.func75, by kernel_rfl, by kernel_rfl⟩
theorem fok76 : Wk.FOk Tryz.prog 76 := ⟨Tryz.f76, Tryz.func76, by kernel_rfl, by kernel_rfl⟩
theorem fok77 : Wk.FOk Tryz.prog 77 := ⟨Tryz.f77, Tryz.func77, by kernel_rfl, by kernel_rfl⟩
theorem fok78 : Wk.FOk Tryz.prog 78 := ⟨Tryz.f78, Tryz.func78, by kernel_rfl, by kernel_rfl⟩
theorem fok79 : Wk.FOk Tryz.prog 79 := ⟨Tryz.f79, Tryz.func79, by kernel_rfl, by kernel_rfl⟩
theorem fok80 : Wk.FOk Tryz.prog 80 := ⟨Tryz.f80, Tryz.func80, by kernel_rfl, by kernel_rfl⟩
theorem fok81 : Wk.FOk Tryz.prog 81 := ⟨Tryz.f81, Tryz.func81, by kernel_rfl, by kernel_rfl⟩
theorem fok82 : Wk.FOk Tryz.prog 82 := ⟨Tryz.f82, Tryz.func82, by kernel_rfl, by kernel_rfl⟩
theorem fok83 : Wk.FOk Tryz.prog 83 := ⟨Tryz.f83, Tryz.func83, by kernel_rfl, by kernel_rfl⟩
theorem fok92 : Wk.FOk Tryz.prog 92 := ⟨Tryz.f92, Tryz.func92, by kernel_rfl, by kernel_rfl⟩
theorem fok95 : Wk.FOk Tryz.prog 95 := ⟨Tryz.f95, Tryz.func95, by kernel_rfl, by kernel_rfl⟩
theorem fok96 : Wk.FOk Tryz.prog 96 := ⟨Tryz.f96, Tryz.func96, by kernel_rfl, by kernel_rfl⟩
theorem fok101 : Wk.FOk Tryz.prog 101 := ⟨Tryz.f101, Tryz.func101, by kernel_rfl, by kernel_rfl⟩
theorem fok102 : Wk.FOk Tryz.prog 102 := ⟨Tryz.f102, Tryz.func102, by kernel_rfl, by kernel_rfl⟩
theorem fok103 : Wk.FOk Tryz.prog 103 := ⟨Tryz.f103, Tryz.func103, by kernel_rfl, by kernel_rfl⟩
theorem fok104 : Wk.FOk Tryz.prog 104 := ⟨Tryz.f104, Tryz.func104, by kernel_rfl, by kernel_rfl⟩
theorem fok105 : Wk.FOk Tryz.prog 105 := ⟨Tryz.f105, Tryz.func105, by kernel_rfl, by kernel_rfl⟩
theorem fok106 : Wk.FOk Tryz.prog 106 := ⟨Tryz.f106, Tryz.func106, by kernel_rfl, by kernel_rfl⟩
theorem fok107 : Wk.FOk Tryz.prog 107 := ⟨Tryz.f107, Tryz.func107, by kernel_rfl, by kernel_rfl⟩
theorem fok108 : Wk.FOk Tryz.prog 108 := ⟨Tryz.f108, Tryz.func108, by kernel_rfl, by kernel_rfl⟩
theorem fok109 : Wk.FOk Tryz.prog 109 := ⟨Tryz.f109, Tryz.func109, by kernel_rfl, by kernel_rfl⟩
theorem fok110 : Wk.FOk Tryz.prog 110 := ⟨Tryz.f110, Tryz.func110, by kernel_rfl, by kernel_rfl⟩
theorem fok111 : Wk.FOk Tryz.prog 111 := ⟨Tryz.f111, Tryz.func111, by kernel_rfl, by kernel_rfl⟩
theorem fok112 : Wk.FOk Tryz.prog 112 := ⟨Tryz.f112, Tryz.func112, by kernel_rfl, by kernel_rfl⟩
theorem fok113 : Wk.FOk Tryz.prog 113 := ⟨Tryz.f113, Tryz.func113, by kernel_rfl, by kernel_rfl⟩
theorem fok114 : Wk.FOk Tryz.prog 114 := ⟨Tryz.f114, Tryz.func114, by kernel_rfl, by kernel_rfl⟩
theorem fok115 : Wk.FOk Tryz.prog 115 := ⟨Tryz.f115, Tryz.func115, by kernel_rfl, by kernel_rfl⟩
theorem fok120 : Wk.FOk Tryz.prog 120 := ⟨Tryz.f120, Tryz.func120, by kernel_rfl, by kernel_rfl⟩
theorem fok121 : Wk.FOk Tryz.prog 121 := ⟨Tryz.f121, Tryz.func121, by kernel_rfl, by kernel_rfl⟩
theorem fok127 : Wk.FOk Tryz.prog 127 := ⟨Tryz.f127, Tryz.func127, by kernel_rfl, by kernel_rfl⟩
theorem fok133 : Wk.FOk Tryz.prog 133 := ⟨Tryz.f133, Tryz.func133, by kernel_rfl, by kernel_rfl⟩
theorem fok134 : Wk.FOk Tryz.prog 134 := ⟨Tryz.f134, Tryz.func134, by kernel_rfl, by kernel_rfl⟩
theorem fok136 : Wk.FOk Tryz.prog 136 := ⟨Tryz.f136, Tryz.func136, by kernel_rfl, by kernel_rfl⟩
theorem fok137 : Wk.FOk Tryz.prog 137 := ⟨Tryz.f137, Tryz.func137, by kernel_rfl, by kernel_rfl⟩
theorem fok138 : Wk.FOk Tryz.prog 138 := ⟨Tryz.f138, Tryz.func138, by kernel_rfl, by kernel_rfl⟩
theorem fok139 : Wk.FOk Tryz.prog 139 := ⟨Tryz.f139, Tryz.func139, by kernel_rfl, by kernel_rfl⟩
theorem fok140 : Wk.FOk Tryz.prog 140 := ⟨Tryz.f140, Tryz.func140, by kernel_rfl, by kernel_rfl⟩
theorem fok145 : Wk.FOk Tryz.prog 145 := ⟨Tryz.f145, Tryz.func145, by kernel_rfl, by kernel_rfl⟩
theorem fok147 : Wk.FOk Tryz.prog 147 := ⟨Tryz.f147, Tryz.func147, by kernel_rfl, by kernel_rfl⟩
theorem fok148 : Wk.FOk Tryz.prog 148 := ⟨Tryz.f148, Tryz.func148, by kernel_rfl, by kernel_rfl⟩
theorem fok149 : Wk.FOk Tryz.prog 149 := ⟨Tryz.f149, Tryz.func149, by kernel_rfl, by kernel_rfl⟩
theorem fok150 : Wk.FOk Tryz.prog 150 := ⟨Tryz.f150, Tryz.func150, by kernel_rfl, by kernel_rfl⟩
theorem fok151 : Wk.FOk Tryz.prog 151 := ⟨Tryz.f151, Tryz.func151, by kernel_rfl, by kernel_rfl⟩
theorem fok152 : Wk.FOk Tryz.prog 152 := ⟨Tryz.f152, Tryz.func152, by kernel_rfl, by kernel_rfl⟩
theorem fok153 : Wk.FOk Tryz.prog 153 := ⟨Tryz.f153, Tryz.func153, by kernel_rfl, by kernel_rfl⟩
theorem fok157 : Wk.FOk Tryz.prog 157 := ⟨Tryz.f157, Tryz.func157, by kernel_rfl, by kernel_rfl⟩
theorem fok158 : Wk.FOk Tryz.prog 158 := ⟨Tryz.f158, Tryz.func158, by kernel_rfl, by kernel_rfl⟩
theorem fok160 : Wk.FOk Tryz.prog 160 := ⟨Tryz.f160, Tryz.func160, by kernel_rfl, by kernel_rfl⟩
theorem fok162 : Wk.FOk Tryz.prog 162 := ⟨Tryz.f162, Tryz.func162, by kernel_rfl, by kernel_rfl⟩
theorem fok163 : Wk.FOk Tryz.prog 163 := ⟨Tryz.f163, Tryz.func163, by kernel_rfl, by kernel_rfl⟩
theorem fok164 : Wk.FOk Tryz.prog 164 := ⟨Tryz.f164, Tryz.func164, by kernel_rfl, by kernel_rfl⟩
theorem fok165 : Wk.FOk Tryz.prog 165 := ⟨Tryz.f165, Tryz.func165, by kernel_rfl, by kernel_rfl⟩
theorem fok166 : Wk.FOk Tryz.prog 166 := ⟨Tryz.f166, Tryz.func166, by kernel_rfl, by kernel_rfl⟩
theorem fok187 : Wk.FOk Tryz.prog 187 := ⟨Tryz.f187, Tryz.func187, by kernel_rfl, by kernel_rfl⟩
theorem fok188 : Wk.FOk Tryz.prog 188 := ⟨Tryz.f188, Tryz.func188, by kernel_rfl, by kernel_rfl⟩
theorem fok189 : Wk.FOk Tryz.prog 189 := ⟨Tryz.f189, Tryz.func189, by kernel_rfl, by kernel_rfl⟩
theorem fok190 : Wk.FOk Tryz.prog 190 := ⟨Tryz.f190, Tryz.func190, by kernel_rfl, by kernel_rfl⟩
theorem fok192 : Wk.FOk Tryz.prog 192 := ⟨Tryz.f192, Tryz.func192, by kernel_rfl, by kernel_rfl⟩
theorem fok193 : Wk.FOk Tryz.prog 193 := ⟨Tryz.f193, Tryz.func193, by kernel_rfl, by kernel_rfl⟩
theorem fok196 : Wk.FOk Tryz.prog 196 := ⟨Tryz.f196, Tryz.func196, by kernel_rfl, by kernel_rfl⟩
theorem fok197 : Wk.FOk Tryz.prog 197 := ⟨Tryz.f197, Tryz.func197, by kernel_rfl, by kernel_rfl⟩
theorem fok198 : Wk.FOk Tryz.prog 198 := ⟨Tryz.f198, Tryz.func198, by kernel_rfl, by kernel_rfl⟩
theorem fok199 : Wk.FOk Tryz.prog 199 := ⟨Tryz.f199, Tryz.func199, by kernel_rfl, by kernel_rfl⟩
theorem fok200 : Wk.FOk Tryz.prog 200 := ⟨Tryz.f200, Tryz.func200, by kernel_rfl, by kernel_rfl⟩
theorem fok201 : Wk.FOk Tryz.prog 201 := ⟨Tryz.f201, Tryz.func201, by kernel_rfl, by kernel_rfl⟩
theorem fok202 : Wk.FOk Tryz.prog 202 := ⟨Tryz.f202, Tryz.func202, by kernel_rfl, by kernel_rfl⟩
theorem fok203 : Wk.FOk Tryz.prog 203 := ⟨Tryz.f203, Tryz.func203, by kernel_rfl, by kernel_rfl⟩
theorem fok204 : Wk.FOk Tryz.prog 204 := ⟨Tryz.f204, Tryz.func204, by kernel_rfl, by kernel_rfl⟩
theorem fok205 : Wk.FOk Tryz.prog 205 := ⟨Tryz.f205, Tryz.func205, by kernel_rfl, by kernel_rfl⟩
theorem fok206 : Wk.FOk Tryz.prog 206 := ⟨Tryz.f206, Tryz.func206, by kernel_rfl, by kernel_rfl⟩
theorem fok207 : Wk.FOk Tryz.prog 207 := ⟨Tryz.f207, Tryz.func207, by kernel_rfl, by kernel_rfl⟩
theorem fok208 : Wk.FOk Tryz.prog 208 := ⟨Tryz.f208, Tryz.func208, by kernel_rfl, by kernel_rfl⟩
theorem fok209 : Wk.FOk Tryz.prog 209 := ⟨Tryz.f209, Tryz.func209, by kernel_rfl, by kernel_rfl⟩
theorem fok210 : Wk.FOk Tryz.prog 210 := ⟨Tryz.f210, Tryz.func210, by kernel_rfl, by kernel_rfl⟩
theorem fok211 : Wk.FOk Tryz.prog 211 := ⟨Tryz.f211, Tryz.func211, by kernel_rfl, by kernel_rfl⟩
end Go.Proofs.YtdflchgfhmjhbaaGreatDoor
