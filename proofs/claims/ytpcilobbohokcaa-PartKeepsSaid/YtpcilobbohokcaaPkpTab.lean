/-
  The table of the types of this seat's program, for the walking layer: made by a program (mkseat.py).
-/
import Derived.Test.YtpcilobbohokcaaRows
import Derived.Test.YtpcilobbohokcaaPkpGs
import Derived.KernelRfl
namespace Go.Proofs.Ytpcilobbohokcaa
open Go
def TTl : List (Option Wk.TI) := [
  none,
  some ⟨.func, 1, 8, [Go.Value.nilFunc]⟩,
  some ⟨.int Go.IntKind.i64, 1, 8, [(Go.Value.int Go.IntKind.i64 0)]⟩,
  some ⟨.int Go.IntKind.i64, 1, 8, [(Go.Value.int Go.IntKind.i64 0)]⟩,
  some ⟨.bool, 1, 1, [(Go.Value.bool false)]⟩,
  some ⟨.int Go.IntKind.u8, 1, 1, [(Go.Value.int Go.IntKind.u8 0)]⟩,
  some ⟨.int Go.IntKind.u8, 1, 1, [(Go.Value.int Go.IntKind.u8 0)]⟩,
  some ⟨.strct [(0, 1, 2), (1, 1, 3), (2, 1, 4), (3, 1, 6)], 4, 24, [(Go.Value.int Go.IntKind.i64 0), (Go.Value.int Go.IntKind.i64 0), (Go.Value.bool false), (Go.Value.int Go.IntKind.u8 0)]⟩,
  some ⟨.strct [(0, 1, 2), (1, 1, 3), (2, 1, 4), (3, 1, 6)], 4, 24, [(Go.Value.int Go.IntKind.i64 0), (Go.Value.int Go.IntKind.i64 0), (Go.Value.bool false), (Go.Value.int Go.IntKind.u8 0)]⟩,
  some ⟨.string, 1, 16, [(Go.Value.string { data := #[] })]⟩,
  some ⟨.string, 1, 16, [(Go.Value.string { data := #[] })]⟩,
  some ⟨.string, 1, 16, [(Go.Value.string { data := #[] })]⟩,
  some ⟨.int Go.IntKind.u64, 1, 8, [(Go.Value.int Go.IntKind.u64 0)]⟩,
  none,
  none,
  some ⟨.ptr 195, 1, 8, [(Go.Value.pointer none)]⟩,
  some ⟨.ptr 198, 1, 8, [(Go.Value.pointer none)]⟩,
  some ⟨.ptr 206, 1, 8, [(Go.Value.pointer none)]⟩,
  none,
  none,
  some ⟨.iface, 1, 16, [Go.Value.nilIface]⟩,
  some ⟨.int Go.IntKind.i32, 1, 4, [(Go.Value.int Go.IntKind.i32 0)]⟩,
  some ⟨.strct [(0, 1, 3), (1, 1, 3), (2, 1, 3)], 3, 24, [(Go.Value.int Go.IntKind.i64 0), (Go.Value.int Go.IntKind.i64 0), (Go.Value.int Go.IntKind.i64 0)]⟩,
  some ⟨.strct [(0, 1, 3), (1, 1, 3), (2, 1, 3)], 3, 24, [(Go.Value.int Go.IntKind.i64 0), (Go.Value.int Go.IntKind.i64 0), (Go.Value.int Go.IntKind.i64 0)]⟩,
  some ⟨.slice 59, 1, 24, [(Go.Value.slice none 0 0)]⟩,
  some ⟨.slice 9, 1, 24, [(Go.Value.slice none 0 0)]⟩,
  some ⟨.strct [(0, 3, 23), (3, 1, 3), (4, 1, 24), (5, 1, 25)], 6, 80, [(Go.Value.int Go.IntKind.i64 0), (Go.Value.int Go.IntKind.i64 0), (Go.Value.int Go.IntKind.i64 0), (Go.Value.int Go.IntKind.i64 0), (Go.Value.slice none 0 0), (Go.Value.slice none 0 0)]⟩,
  some ⟨.strct [(0, 3, 23), (3, 1, 3), (4, 1, 24), (5, 1, 25)], 6, 80, [(Go.Value.int Go.IntKind.i64 0), (Go.Value.int Go.IntKind.i64 0), (Go.Value.int Go.IntKind.i64 0), (Go.Value.int Go.IntKind.i64 0), (Go.Value.slice none 0 0), (Go.Value.slice none 0 0)]⟩,
  some ⟨.int Go.IntKind.u16, 1, 2, [(Go.Value.int Go.IntKind.u16 0)]⟩,
  some ⟨.func, 1, 8, [Go.Value.nilFunc]⟩,
  some ⟨.func, 1, 8, [Go.Value.nilFunc]⟩,
  some ⟨.int Go.IntKind.i64, 1, 8, [(Go.Value.int Go.IntKind.i64 0)]⟩,
  none,
  some ⟨.func, 1, 8, [Go.Value.nilFunc]⟩,
  none,
  some ⟨.func, 1, 8, [Go.Value.nilFunc]⟩,
  some ⟨.func, 1, 8, [Go.Value.nilFunc]⟩,
  some ⟨.func, 1, 8, [Go.Value.nilFunc]⟩,
  some ⟨.func, 1, 8, [Go.Value.nilFunc]⟩,
  some ⟨.func, 1, 8, [Go.Value.nilFunc]⟩,
  some ⟨.func, 1, 8, [Go.Value.nilFunc]⟩,
  some ⟨.strct [(0, 1, 5), (1, 3, 23), (4, 1, 3), (5, 1, 24), (6, 1, 9), (7, 1, 4), (8, 1, 9)], 9, 104, [(Go.Value.int Go.IntKind.u8 0), (Go.Value.int Go.IntKind.i64 0), (Go.Value.int Go.IntKind.i64 0), (Go.Value.int Go.IntKind.i64 0), (Go.Value.int Go.IntKind.i64 0), (Go.Value.slice none 0 0), (Go.Value.string { data := #[] }), (Go.Value.bool false), (Go.Value.string { data := #[] })]⟩,
  some ⟨.strct [(0, 1, 5), (1, 3, 23), (4, 1, 3), (5, 1, 24), (6, 1, 9), (7, 1, 4), (8, 1, 9)], 9, 104, [(Go.Value.int Go.IntKind.u8 0), (Go.Value.int Go.IntKind.i64 0), (Go.Value.int Go.IntKind.i64 0), (Go.Value.int Go.IntKind.i64 0), (Go.Value.int Go.IntKind.i64 0), (Go.Value.slice none 0 0), (Go.Value.string { data := #[] }), (Go.Value.bool false), (Go.Value.string { data := #[] })]⟩,
  some ⟨.func, 1, 8, [Go.Value.nilFunc]⟩,
  none,
  some ⟨.func, 1, 8, [Go.Value.nilFunc]⟩,
  some ⟨.func, 1, 8, [Go.Value.nilFunc]⟩,
  some ⟨.func, 1, 8, [Go.Value.nilFunc]⟩,
  some ⟨.func, 1, 8, [Go.Value.nilFunc]⟩,
  some ⟨.func, 1, 8, [Go.Value.nilFunc]⟩,
  some ⟨.func, 1, 8, [Go.Value.nilFunc]⟩,
  some ⟨.func, 1, 8, [Go.Value.nilFunc]⟩,
  some ⟨.slice 57, 1, 24, [(Go.Value.slice none 0 0)]⟩,
  some ⟨.func, 1, 8, [Go.Value.nilFunc]⟩,
  none,
  some ⟨.func, 1, 8, [Go.Value.nilFunc]⟩,
  some ⟨.strct [(0, 3, 23), (3, 1, 3), (4, 1, 24), (5, 1, 3)], 6, 64, [(Go.Value.int Go.IntKind.i64 0), (Go.Value.int Go.IntKind.i64 0), (Go.Value.int Go.IntKind.i64 0), (Go.Value.int Go.IntKind.i64 0), (Go.Value.slice none 0 0), (Go.Value.int Go.IntKind.i64 0)]⟩,
  some ⟨.strct [(0, 3, 23), (3, 1, 3), (4, 1, 24), (5, 1, 3)], 6, 64, [(Go.Value.int Go.IntKind.i64 0), (Go.Value.int Go.IntKind.i64 0), (Go.Value.int Go.IntKind.i64 0), (Go.Value.int Go.IntKind.i64 0), (Go.Value.slice none 0 0), (Go.Value.int Go.IntKind.i64 0)]⟩,
  some ⟨.strct [(0, 1, 3), (1, 1, 9)], 2, 24, [(Go.Value.int Go.IntKind.i64 0), (Go.Value.string { data := #[] })]⟩,
  some ⟨.strct [(0, 1, 3), (1, 1, 9)], 2, 24, [(Go.Value.int Go.IntKind.i64 0), (Go.Value.string { data := #[] })]⟩,
  some ⟨.func, 1, 8, [Go.Value.nilFunc]⟩,
  some ⟨.slice 70, 1, 24, [(Go.Value.slice none 0 0)]⟩,
  some ⟨.func, 1, 8, [Go.Value.nilFunc]⟩,
  some ⟨.strct [(0, 3, 23), (3, 1, 3), (4, 1, 24), (5, 1, 3), (6, 1, 9), (7, 1, 5), (8, 1, 9), (9, 1, 2)], 10, 112, [(Go.Value.int Go.IntKind.i64 0), (Go.Value.int Go.IntKind.i64 0), (Go.Value.int Go.IntKind.i64 0), (Go.Value.int Go.IntKind.i64 0), (Go.Value.slice none 0 0), (Go.Value.int Go.IntKind.i64 0), (Go.Value.string { data := #[] }), (Go.Value.int Go.IntKind.u8 0), (Go.Value.string { data := #[] }), (Go.Value.int Go.IntKind.i64 0)]⟩,
  some ⟨.strct [(0, 3, 23), (3, 1, 3), (4, 1, 24), (5, 1, 3), (6, 1, 9), (7, 1, 5), (8, 1, 9), (9, 1, 2)], 10, 112, [(Go.Value.int Go.IntKind.i64 0), (Go.Value.int Go.IntKind.i64 0), (Go.Value.int Go.IntKind.i64 0), (Go.Value.int Go.IntKind.i64 0), (Go.Value.slice none 0 0), (Go.Value.int Go.IntKind.i64 0), (Go.Value.string { data := #[] }), (Go.Value.int Go.IntKind.u8 0), (Go.Value.string { data := #[] }), (Go.Value.int Go.IntKind.i64 0)]⟩,
  none,
  some ⟨.func, 1, 8, [Go.Value.nilFunc]⟩,
  some ⟨.func, 1, 8, [Go.Value.nilFunc]⟩,
  some ⟨.func, 1, 8, [Go.Value.nilFunc]⟩,
  some ⟨.strct [(0, 1, 5), (1, 1, 4), (2, 1, 9), (3, 1, 2)], 4, 32, [(Go.Value.int Go.IntKind.u8 0), (Go.Value.bool false), (Go.Value.string { data := #[] }), (Go.Value.int Go.IntKind.i64 0)]⟩,
  some ⟨.strct [(0, 1, 5), (1, 1, 4), (2, 1, 9), (3, 1, 2)], 4, 32, [(Go.Value.int Go.IntKind.u8 0), (Go.Value.bool false), (Go.Value.string { data := #[] }), (Go.Value.int Go.IntKind.i64 0)]⟩,
  some ⟨.func, 1, 8, [Go.Value.nilFunc]⟩,
  some ⟨.func, 1, 8, [Go.Value.nilFunc]⟩,
  some ⟨.func, 1, 8, [Go.Value.nilFunc]⟩,
  none,
  some ⟨.func, 1, 8, [Go.Value.nilFunc]⟩,
  some ⟨.func, 1, 8, [Go.Value.nilFunc]⟩,
  some ⟨.func, 1, 8, [Go.Value.nilFunc]⟩,
  some ⟨.func, 1, 8, [Go.Value.nilFunc]⟩,
  some ⟨.func, 1, 8, [Go.Value.nilFunc]⟩,
  some ⟨.func, 1, 8, [Go.Value.nilFunc]⟩,
  some ⟨.func, 1, 8, [Go.Value.nilFunc]⟩,
  some ⟨.func, 1, 8, [Go.Value.nilFunc]⟩,
  some ⟨.func, 1, 8, [Go.Value.nilFunc]⟩,
  some ⟨.func, 1, 8, [Go.Value.nilFunc]⟩,
  some ⟨.func, 1, 8, [Go.Value.nilFunc]⟩,
  some ⟨.func, 1, 8, [Go.Value.nilFunc]⟩,
  some ⟨.func, 1, 8, [Go.Value.nilFunc]⟩,
  some ⟨.func, 1, 8, [Go.Value.nilFunc]⟩,
  some ⟨.func, 1, 8, [Go.Value.nilFunc]⟩,
  none,
  some ⟨.func, 1, 8, [Go.Value.nilFunc]⟩,
  some ⟨.func, 1, 8, [Go.Value.nilFunc]⟩,
  some ⟨.func, 1, 8, [Go.Value.nilFunc]⟩,
  none,
  some ⟨.func, 1, 8, [Go.Value.nilFunc]⟩,
  some ⟨.func, 1, 8, [Go.Value.nilFunc]⟩,
  some ⟨.func, 1, 8, [Go.Value.nilFunc]⟩,
  some ⟨.func, 1, 8, [Go.Value.nilFunc]⟩,
  some ⟨.func, 1, 8, [Go.Value.nilFunc]⟩,
  some ⟨.func, 1, 8, [Go.Value.nilFunc]⟩,
  some ⟨.strct [(0, 1, 9), (1, 1, 3), (2, 1, 3), (3, 1, 43), (4, 1, 99), (5, 1, 100)], 6, 56, [(Go.Value.string { data := #[] }), (Go.Value.int Go.IntKind.i64 0), (Go.Value.int Go.IntKind.i64 0), Go.Value.nilFunc, Go.Value.nilFunc, Go.Value.nilFunc]⟩,
  some ⟨.strct [(0, 1, 9), (1, 1, 3), (2, 1, 3), (3, 1, 43), (4, 1, 99), (5, 1, 100)], 6, 56, [(Go.Value.string { data := #[] }), (Go.Value.int Go.IntKind.i64 0), (Go.Value.int Go.IntKind.i64 0), Go.Value.nilFunc, Go.Value.nilFunc, Go.Value.nilFunc]⟩,
  some ⟨.map 5 102, 1, 8, [(Go.Value.map none)]⟩,
  some ⟨.func, 1, 8, [Go.Value.nilFunc]⟩,
  none,
  some ⟨.func, 1, 8, [Go.Value.nilFunc]⟩,
  some ⟨.func, 1, 8, [Go.Value.nilFunc]⟩,
  some ⟨.func, 1, 8, [Go.Value.nilFunc]⟩,
  some ⟨.func, 1, 8, [Go.Value.nilFunc]⟩,
  some ⟨.func, 1, 8, [Go.Value.nilFunc]⟩,
  some ⟨.func, 1, 8, [Go.Value.nilFunc]⟩,
  some ⟨.func, 1, 8, [Go.Value.nilFunc]⟩,
  some ⟨.func, 1, 8, [Go.Value.nilFunc]⟩,
  some ⟨.func, 1, 8, [Go.Value.nilFunc]⟩,
  some ⟨.strct [(0, 6, 57)], 6, 64, [(Go.Value.int Go.IntKind.i64 0), (Go.Value.int Go.IntKind.i64 0), (Go.Value.int Go.IntKind.i64 0), (Go.Value.int Go.IntKind.i64 0), (Go.Value.slice none 0 0), (Go.Value.int Go.IntKind.i64 0)]⟩,
  some ⟨.strct [(0, 6, 57)], 6, 64, [(Go.Value.int Go.IntKind.i64 0), (Go.Value.int Go.IntKind.i64 0), (Go.Value.int Go.IntKind.i64 0), (Go.Value.int Go.IntKind.i64 0), (Go.Value.slice none 0 0), (Go.Value.int Go.IntKind.i64 0)]⟩,
  some ⟨.func, 1, 8, [Go.Value.nilFunc]⟩,
  some ⟨.func, 1, 8, [Go.Value.nilFunc]⟩,
  some ⟨.func, 1, 8, [Go.Value.nilFunc]⟩,
  some ⟨.strct [(0, 1, 4), (1, 1, 4), (2, 1, 4), (3, 1, 4), (4, 1, 4)], 5, 5, [(Go.Value.bool false), (Go.Value.bool false), (Go.Value.bool false), (Go.Value.bool false), (Go.Value.bool false)]⟩,
  some ⟨.strct [(0, 1, 4), (1, 1, 4), (2, 1, 4), (3, 1, 4), (4, 1, 4)], 5, 5, [(Go.Value.bool false), (Go.Value.bool false), (Go.Value.bool false), (Go.Value.bool false), (Go.Value.bool false)]⟩,
  some ⟨.arr 6 121, 30, 30, [(Go.Value.bool false), (Go.Value.bool false), (Go.Value.bool false), (Go.Value.bool false), (Go.Value.bool false), (Go.Value.bool false), (Go.Value.bool false), (Go.Value.bool false), (Go.Value.bool false), (Go.Value.bool false), (Go.Value.bool false), (Go.Value.bool false), (Go.Value.bool false), (Go.Value.bool false), (Go.Value.bool false), (Go.Value.bool false), (Go.Value.bool false), (Go.Value.bool false), (Go.Value.bool false), (Go.Value.bool false), (Go.Value.bool false), (Go.Value.bool false), (Go.Value.bool false), (Go.Value.bool false), (Go.Value.bool false), (Go.Value.bool false), (Go.Value.bool false), (Go.Value.bool false), (Go.Value.bool false), (Go.Value.bool false)]⟩,
  some ⟨.func, 1, 8, [Go.Value.nilFunc]⟩,
  some ⟨.strct [(0, 1, 31)], 1, 8, [(Go.Value.int Go.IntKind.i64 0)]⟩,
  some ⟨.strct [(0, 1, 31)], 1, 8, [(Go.Value.int Go.IntKind.i64 0)]⟩,
  none,
  some ⟨.func, 1, 8, [Go.Value.nilFunc]⟩,
  some ⟨.func, 1, 8, [Go.Value.nilFunc]⟩,
  none,
  some ⟨.func, 1, 8, [Go.Value.nilFunc]⟩,
  some ⟨.func, 1, 8, [Go.Value.nilFunc]⟩,
  some ⟨.map 3 3, 1, 8, [(Go.Value.map none)]⟩,
  none,
  some ⟨.func, 1, 8, [Go.Value.nilFunc]⟩,
  some ⟨.func, 1, 8, [Go.Value.nilFunc]⟩,
  some ⟨.func, 1, 8, [Go.Value.nilFunc]⟩,
  some ⟨.int Go.IntKind.u64, 1, 8, [(Go.Value.int Go.IntKind.u64 0)]⟩,
  some ⟨.func, 1, 8, [Go.Value.nilFunc]⟩,
  some ⟨.func, 1, 8, [Go.Value.nilFunc]⟩,
  some ⟨.func, 1, 8, [Go.Value.nilFunc]⟩,
  some ⟨.func, 1, 8, [Go.Value.nilFunc]⟩,
  some ⟨.func, 1, 8, [Go.Value.nilFunc]⟩,
  some ⟨.func, 1, 8, [Go.Value.nilFunc]⟩,
  some ⟨.func, 1, 8, [Go.Value.nilFunc]⟩,
  some ⟨.func, 1, 8, [Go.Value.nilFunc]⟩,
  some ⟨.strct [], 0, 0, []⟩,
  some ⟨.strct [], 0, 0, []⟩,
  none,
  some ⟨.func, 1, 8, [Go.Value.nilFunc]⟩,
  none,
  some ⟨.func, 1, 8, [Go.Value.nilFunc]⟩,
  some ⟨.func, 1, 8, [Go.Value.nilFunc]⟩,
  some ⟨.func, 1, 8, [Go.Value.nilFunc]⟩,
  some ⟨.ptr 42, 1, 8, [(Go.Value.pointer none)]⟩,
  some ⟨.func, 1, 8, [Go.Value.nilFunc]⟩,
  some ⟨.func, 1, 8, [Go.Value.nilFunc]⟩,
  some ⟨.func, 1, 8, [Go.Value.nilFunc]⟩,
  some ⟨.func, 1, 8, [Go.Value.nilFunc]⟩,
  none,
  some ⟨.func, 1, 8, [Go.Value.nilFunc]⟩,
  some ⟨.ptr 164, 1, 8, [(Go.Value.pointer none)]⟩,
  some ⟨.slice 5, 1, 24, [(Go.Value.slice none 0 0)]⟩,
  some ⟨.strct [(0, 1, 161), (1, 1, 162)], 2, 32, [(Go.Value.pointer none), (Go.Value.slice none 0 0)]⟩,
  some ⟨.strct [(0, 1, 161), (1, 1, 162)], 2, 32, [(Go.Value.pointer none), (Go.Value.slice none 0 0)]⟩,
  some ⟨.iface, 1, 16, [Go.Value.nilIface]⟩,
  some ⟨.iface, 1, 16, [Go.Value.nilIface]⟩,
  none,
  some ⟨.func, 1, 8, [Go.Value.nilFunc]⟩,
  some ⟨.func, 1, 8, [Go.Value.nilFunc]⟩,
  some ⟨.func, 1, 8, [Go.Value.nilFunc]⟩,
  some ⟨.arr 9 5, 9, 9, [(Go.Value.int Go.IntKind.u8 0), (Go.Value.int Go.IntKind.u8 0), (Go.Value.int Go.IntKind.u8 0), (Go.Value.int Go.IntKind.u8 0), (Go.Value.int Go.IntKind.u8 0), (Go.Value.int Go.IntKind.u8 0), (Go.Value.int Go.IntKind.u8 0), (Go.Value.int Go.IntKind.u8 0), (Go.Value.int Go.IntKind.u8 0)]⟩,
  some ⟨.int Go.IntKind.u64, 1, 8, [(Go.Value.int Go.IntKind.u64 0)]⟩,
  some ⟨.strct [(0, 1, 31)], 1, 8, [(Go.Value.int Go.IntKind.i64 0)]⟩,
  some ⟨.strct [(0, 1, 31)], 1, 8, [(Go.Value.int Go.IntKind.i64 0)]⟩,
  none,
  none,
  some ⟨.func, 1, 8, [Go.Value.nilFunc]⟩,
  none,
  some ⟨.func, 1, 8, [Go.Value.nilFunc]⟩,
  some ⟨.func, 1, 8, [Go.Value.nilFunc]⟩,
  some ⟨.func, 1, 8, [Go.Value.nilFunc]⟩,
  some ⟨.func, 1, 8, [Go.Value.nilFunc]⟩,
  none,
  some ⟨.func, 1, 8, [Go.Value.nilFunc]⟩,
  some ⟨.ptr 5, 1, 8, [(Go.Value.pointer none)]⟩,
  some ⟨.func, 1, 8, [Go.Value.nilFunc]⟩,
  none,
  some ⟨.func, 1, 8, [Go.Value.nilFunc]⟩,
  some ⟨.func, 1, 8, [Go.Value.nilFunc]⟩,
  some ⟨.func, 1, 8, [Go.Value.nilFunc]⟩,
  some ⟨.func, 1, 8, [Go.Value.nilFunc]⟩,
  some ⟨.func, 1, 8, [Go.Value.nilFunc]⟩,
  some ⟨.func, 1, 8, [Go.Value.nilFunc]⟩,
  none,
  none,
  some ⟨.arr 0 16, 0, 0, []⟩,
  none,
  none,
  some ⟨.int Go.IntKind.u32, 1, 4, [(Go.Value.int Go.IntKind.u32 0)]⟩,
  some ⟨.int Go.IntKind.u8, 1, 1, [(Go.Value.int Go.IntKind.u8 0)]⟩,
  some ⟨.int Go.IntKind.u8, 1, 1, [(Go.Value.int Go.IntKind.u8 0)]⟩,
  some ⟨.func, 1, 8, [Go.Value.nilFunc]⟩,
  some ⟨.int Go.IntKind.i32, 1, 4, [(Go.Value.int Go.IntKind.i32 0)]⟩,
  some ⟨.int Go.IntKind.i32, 1, 4, [(Go.Value.int Go.IntKind.i32 0)]⟩]
def TT : Wk.Tab := Wk.nth TTl
theorem TT_eq (t : Nat) : TT t = Wk.nth TTl t := rfl
theorem tok1 : Wk.TOk Try.prog 1 ⟨.func, 1, 8, [Go.Value.nilFunc]⟩ := ⟨⟨Try.t1, _, by kernel_rfl, rfl, rfl, rfl, by kernel_rfl⟩, ⟨_, _, _, Try.underlying1⟩, by kernel_rfl⟩
theorem tok2 : Wk.TOk Try.prog 2 ⟨.int Go.IntKind.i64, 1, 8, [(Go.Value.int Go.IntKind.i64 0)]⟩ := ⟨⟨Try.t2, _, by kernel_rfl, rfl, rfl, rfl, by kernel_rfl⟩, Try.underlying2, by kernel_rfl⟩
theorem tok3 : Wk.TOk Try.prog 3 ⟨.int Go.IntKind.i64, 1, 8, [(Go.Value.int Go.IntKind.i64 0)]⟩ := ⟨⟨Try.t3, _, by kernel_rfl, rfl, rfl, rfl, by kernel_rfl⟩, Try.underlying3, by kernel_rfl⟩
theorem tok4 : Wk.TOk Try.prog 4 ⟨.bool, 1, 1, [(Go.Value.bool false)]⟩ := ⟨⟨Try.t4, _, by kernel_rfl, rfl, rfl, rfl, by kernel_rfl⟩, Try.underlying4, by kernel_rfl⟩
theorem tok5 : Wk.TOk Try.prog 5 ⟨.int Go.IntKind.u8, 1, 1, [(Go.Value.int Go.IntKind.u8 0)]⟩ := ⟨⟨Try.t5, _, by kernel_rfl, rfl, rfl, rfl, by kernel_rfl⟩, Try.underlying5, by kernel_rfl⟩
theorem tok6 : Wk.TOk Try.prog 6 ⟨.int Go.IntKind.u8, 1, 1, [(Go.Value.int Go.IntKind.u8 0)]⟩ := ⟨⟨Try.t6, _, by kernel_rfl, rfl, rfl, rfl, by kernel_rfl⟩, Try.underlying6, by kernel_rfl⟩
theorem tok7 : Wk.TOk Try.prog 7 ⟨.strct [(0, 1, 2), (1, 1, 3), (2, 1, 4), (3, 1, 6)], 4, 24, [(Go.Value.int Go.IntKind.i64 0), (Go.Value.int Go.IntKind.i64 0), (Go.Value.bool false), (Go.Value.int Go.IntKind.u8 0)]⟩ := ⟨⟨Try.t7, _, by kernel_rfl, rfl, rfl, rfl, by kernel_rfl⟩, ⟨_, Try.underlying7, by kernel_rfl, Try.stoodInHeld7, by kernel_rfl⟩, by kernel_rfl⟩
theorem tok8 : Wk.TOk Try.prog 8 ⟨.strct [(0, 1, 2), (1, 1, 3), (2, 1, 4), (3, 1, 6)], 4, 24, [(Go.Value.int Go.IntKind.i64 0), (Go.Value.int Go.IntKind.i64 0), (Go.Value.bool false), (Go.Value.int Go.IntKind.u8 0)]⟩ := ⟨⟨Try.t8, _, by kernel_rfl, rfl, rfl, rfl, by kernel_rfl⟩, ⟨_, Try.underlying8, by kernel_rfl, Try.stoodInHeld8, by kernel_rfl⟩, by kernel_rfl⟩
theorem tok9 : Wk.TOk Try.prog 9 ⟨.string, 1, 16, [(Go.Value.string { data := #[] })]⟩ := ⟨⟨Try.t9, _, by kernel_rfl, rfl, rfl, rfl, by kernel_rfl⟩, Try.underlying9, by kernel_rfl⟩
theorem tok10 : Wk.TOk Try.prog 10 ⟨.string, 1, 16, [(Go.Value.string { data := #[] })]⟩ := ⟨⟨Try.t10, _, by kernel_rfl, rfl, rfl, rfl, by kernel_rfl⟩, Try.underlying10, by kernel_rfl⟩
theorem tok11 : Wk.TOk Try.prog 11 ⟨.string, 1, 16, [(Go.Value.string { data := #[] })]⟩ := ⟨⟨Try.t11, _, by kernel_rfl, rfl, rfl, rfl, by kernel_rfl⟩, Try.underlying11, by kernel_rfl⟩
theorem tok12 : Wk.TOk Try.prog 12 ⟨.int Go.IntKind.u64, 1, 8, [(Go.Value.int Go.IntKind.u64 0)]⟩ := ⟨⟨Try.t12, _, by kernel_rfl, rfl, rfl, rfl, by kernel_rfl⟩, Try.underlying12, by kernel_rfl⟩
theorem tok15 : Wk.TOk Try.prog 15 ⟨.ptr 195, 1, 8, [(Go.Value.pointer none)]⟩ := ⟨⟨Try.t15, _, by kernel_rfl, rfl, rfl, rfl, by kernel_rfl⟩, Try.underlying15, by kernel_rfl⟩
theorem tok16 : Wk.TOk Try.prog 16 ⟨.ptr 198, 1, 8, [(Go.Value.pointer none)]⟩ := ⟨⟨Try.t16, _, by kernel_rfl, rfl, rfl, rfl, by kernel_rfl⟩, Try.underlying16, by kernel_rfl⟩
theorem tok17 : Wk.TOk Try.prog 17 ⟨.ptr 206, 1, 8, [(Go.Value.pointer none)]⟩ := ⟨⟨Try.t17, _, by kernel_rfl, rfl, rfl, rfl, by kernel_rfl⟩, Try.underlying17, by kernel_rfl⟩
theorem tok20 : Wk.TOk Try.prog 20 ⟨.iface, 1, 16, [Go.Value.nilIface]⟩ := ⟨⟨Try.t20, _, by kernel_rfl, rfl, rfl, rfl, by kernel_rfl⟩, ⟨_, Try.underlying20⟩, by kernel_rfl⟩
theorem tok21 : Wk.TOk Try.prog 21 ⟨.int Go.IntKind.i32, 1, 4, [(Go.Value.int Go.IntKind.i32 0)]⟩ := ⟨⟨Try.t21, _, by kernel_rfl, rfl, rfl, rfl, by kernel_rfl⟩, Try.underlying21, by kernel_rfl⟩
theorem tok22 : Wk.TOk Try.prog 22 ⟨.strct [(0, 1, 3), (1, 1, 3), (2, 1, 3)], 3, 24, [(Go.Value.int Go.IntKind.i64 0), (Go.Value.int Go.IntKind.i64 0), (Go.Value.int Go.IntKind.i64 0)]⟩ := ⟨⟨Try.t22, _, by kernel_rfl, rfl, rfl, rfl, by kernel_rfl⟩, ⟨_, Try.underlying22, by kernel_rfl, Try.stoodInHeld22, by kernel_rfl⟩, by kernel_rfl⟩
theorem tok23 : Wk.TOk Try.prog 23 ⟨.strct [(0, 1, 3), (1, 1, 3), (2, 1, 3)], 3, 24, [(Go.Value.int Go.IntKind.i64 0), (Go.Value.int Go.IntKind.i64 0), (Go.Value.int Go.IntKind.i64 0)]⟩ := ⟨⟨Try.t23, _, by kernel_rfl, rfl, rfl, rfl, by kernel_rfl⟩, ⟨_, Try.underlying23, by kernel_rfl, Try.stoodInHeld23, by kernel_rfl⟩, by kernel_rfl⟩
theorem tok24 : Wk.TOk Try.prog 24 ⟨.slice 59, 1, 24, [(Go.Value.slice none 0 0)]⟩ := ⟨⟨Try.t24, _, by kernel_rfl, rfl, rfl, rfl, by kernel_rfl⟩, Try.underlying24, by kernel_rfl⟩
theorem tok25 : Wk.TOk Try.prog 25 ⟨.slice 9, 1, 24, [(Go.Value.slice none 0 0)]⟩ := ⟨⟨Try.t25, _, by kernel_rfl, rfl, rfl, rfl, by kernel_rfl⟩, Try.underlying25, by kernel_rfl⟩
theorem tok26 : Wk.TOk Try.prog 26 ⟨.strct [(0, 3, 23), (3, 1, 3), (4, 1, 24), (5, 1, 25)], 6, 80, [(Go.Value.int Go.IntKind.i64 0), (Go.Value.int Go.IntKind.i64 0), (Go.Value.int Go.IntKind.i64 0), (Go.Value.int Go.IntKind.i64 0), (Go.Value.slice none 0 0), (Go.Value.slice none 0 0)]⟩ := ⟨⟨Try.t26, _, by kernel_rfl, rfl, rfl, rfl, by kernel_rfl⟩, ⟨_, Try.underlying26, by kernel_rfl, Try.stoodInHeld26, by kernel_rfl⟩, by kernel_rfl⟩
theorem tok27 : Wk.TOk Try.prog 27 ⟨.strct [(0, 3, 23), (3, 1, 3), (4, 1, 24), (5, 1, 25)], 6, 80, [(Go.Value.int Go.IntKind.i64 0), (Go.Value.int Go.IntKind.i64 0), (Go.Value.int Go.IntKind.i64 0), (Go.Value.int Go.IntKind.i64 0), (Go.Value.slice none 0 0), (Go.Value.slice none 0 0)]⟩ := ⟨⟨Try.t27, _, by kernel_rfl, rfl, rfl, rfl, by kernel_rfl⟩, ⟨_, Try.underlying27, by kernel_rfl, Try.stoodInHeld27, by kernel_rfl⟩, by kernel_rfl⟩
theorem tok28 : Wk.TOk Try.prog 28 ⟨.int Go.IntKind.u16, 1, 2, [(Go.Value.int Go.IntKind.u16 0)]⟩ := ⟨⟨Try.t28, _, by kernel_rfl, rfl, rfl, rfl, by kernel_rfl⟩, Try.underlying28, by kernel_rfl⟩
theorem tok29 : Wk.TOk Try.prog 29 ⟨.func, 1, 8, [Go.Value.nilFunc]⟩ := ⟨⟨Try.t29, _, by kernel_rfl, rfl, rfl, rfl, by kernel_rfl⟩, ⟨_, _, _, Try.underlying29⟩, by kernel_rfl⟩
theorem tok30 : Wk.TOk Try.prog 30 ⟨.func, 1, 8, [Go.Value.nilFunc]⟩ := ⟨⟨Try.t30, _, by kernel_rfl, rfl, rfl, rfl, by kernel_rfl⟩, ⟨_, _, _, Try.underlying30⟩, by kernel_rfl⟩
theorem tok31 : Wk.TOk Try.prog 31 ⟨.int Go.IntKind.i64, 1, 8, [(Go.Value.int Go.IntKind.i64 0)]⟩ := ⟨⟨Try.t31, _, by kernel_rfl, rfl, rfl, rfl, by kernel_rfl⟩, Try.underlying31, by kernel_rfl⟩
theorem tok33 : Wk.TOk Try.prog 33 ⟨.func, 1, 8, [Go.Value.nilFunc]⟩ := ⟨⟨Try.t33, _, by kernel_rfl, rfl, rfl, rfl, by kernel_rfl⟩, ⟨_, _, _, Try.underlying33⟩, by kernel_rfl⟩
theorem tok35 : Wk.TOk Try.prog 35 ⟨.func, 1, 8, [Go.Value.nilFunc]⟩ := ⟨⟨Try.t35, _, by kernel_rfl, rfl, rfl, rfl, by kernel_rfl⟩, ⟨_, _, _, Try.underlying35⟩, by kernel_rfl⟩
theorem tok36 : Wk.TOk Try.prog 36 ⟨.func, 1, 8, [Go.Value.nilFunc]⟩ := ⟨⟨Try.t36, _, by kernel_rfl, rfl, rfl, rfl, by kernel_rfl⟩, ⟨_, _, _, Try.underlying36⟩, by kernel_rfl⟩
theorem tok37 : Wk.TOk Try.prog 37 ⟨.func, 1, 8, [Go.Value.nilFunc]⟩ := ⟨⟨Try.t37, _, by kernel_rfl, rfl, rfl, rfl, by kernel_rfl⟩, ⟨_, _, _, Try.underlying37⟩, by kernel_rfl⟩
theorem tok38 : Wk.TOk Try.prog 38 ⟨.func, 1, 8, [Go.Value.nilFunc]⟩ := ⟨⟨Try.t38, _, by kernel_rfl, rfl, rfl, rfl, by kernel_rfl⟩, ⟨_, _, _, Try.underlying38⟩, by kernel_rfl⟩
theorem tok39 : Wk.TOk Try.prog 39 ⟨.func, 1, 8, [Go.Value.nilFunc]⟩ := ⟨⟨Try.t39, _, by kernel_rfl, rfl, rfl, rfl, by kernel_rfl⟩, ⟨_, _, _, Try.underlying39⟩, by kernel_rfl⟩
theorem tok40 : Wk.TOk Try.prog 40 ⟨.func, 1, 8, [Go.Value.nilFunc]⟩ := ⟨⟨Try.t40, _, by kernel_rfl, rfl, rfl, rfl, by kernel_rfl⟩, ⟨_, _, _, Try.underlying40⟩, by kernel_rfl⟩
theorem tok41 : Wk.TOk Try.prog 41 ⟨.strct [(0, 1, 5), (1, 3, 23), (4, 1, 3), (5, 1, 24), (6, 1, 9), (7, 1, 4), (8, 1, 9)], 9, 104, [(Go.Value.int Go.IntKind.u8 0), (Go.Value.int Go.IntKind.i64 0), (Go.Value.int Go.IntKind.i64 0), (Go.Value.int Go.IntKind.i64 0), (Go.Value.int Go.IntKind.i64 0), (Go.Value.slice none 0 0), (Go.Value.string { data := #[] }), (Go.Value.bool false), (Go.Value.string { data := #[] })]⟩ := ⟨⟨Try.t41, _, by kernel_rfl, rfl, rfl, rfl, by kernel_rfl⟩, ⟨_, Try.underlying41, by kernel_rfl, Try.stoodInHeld41, by kernel_rfl⟩, by kernel_rfl⟩
theorem tok42 : Wk.TOk Try.prog 42 ⟨.strct [(0, 1, 5), (1, 3, 23), (4, 1, 3), (5, 1, 24), (6, 1, 9), (7, 1, 4), (8, 1, 9)], 9, 104, [(Go.Value.int Go.IntKind.u8 0), (Go.Value.int Go.IntKind.i64 0), (Go.Value.int Go.IntKind.i64 0), (Go.Value.int Go.IntKind.i64 0), (Go.Value.int Go.IntKind.i64 0), (Go.Value.slice none 0 0), (Go.Value.string { data := #[] }), (Go.Value.bool false), (Go.Value.string { data := #[] })]⟩ := ⟨⟨Try.t42, _, by kernel_rfl, rfl, rfl, rfl, by kernel_rfl⟩, ⟨_, Try.underlying42, by kernel_rfl, Try.stoodInHeld42, by kernel_rfl⟩, by kernel_rfl⟩
theorem tok43 : Wk.TOk Try.prog 43 ⟨.func, 1, 8, [Go.Value.nilFunc]⟩ := ⟨⟨Try.t43, _, by kernel_rfl, rfl, rfl, rfl, by kernel_rfl⟩, ⟨_, _, _, Try.underlying43⟩, by kernel_rfl⟩
theorem tok45 : Wk.TOk Try.prog 45 ⟨.func, 1, 8, [Go.Value.nilFunc]⟩ := ⟨⟨Try.t45, _, by kernel_rfl, rfl, rfl, rfl, by kernel_rfl⟩, ⟨_, _, _, Try.underlying45⟩, by kernel_rfl⟩
theorem tok46 : Wk.TOk Try.prog 46 ⟨.func, 1, 8, [Go.Value.nilFunc]⟩ := ⟨⟨Try.t46, _, by kernel_rfl, rfl, rfl, rfl, by kernel_rfl⟩, ⟨_, _, _, Try.underlying46⟩, by kernel_rfl⟩
theorem tok47 : Wk.TOk Try.prog 47 ⟨.func, 1, 8, [Go.Value.nilFunc]⟩ := ⟨⟨Try.t47, _, by kernel_rfl, rfl, rfl, rfl, by kernel_rfl⟩, ⟨_, _, _, Try.underlying47⟩, by kernel_rfl⟩
theorem tok48 : Wk.TOk Try.prog 48 ⟨.func, 1, 8, [Go.Value.nilFunc]⟩ := ⟨⟨Try.t48, _, by kernel_rfl, rfl, rfl, rfl, by kernel_rfl⟩, ⟨_, _, _, Try.underlying48⟩, by kernel_rfl⟩
theorem tok49 : Wk.TOk Try.prog 49 ⟨.func, 1, 8, [Go.Value.nilFunc]⟩ := ⟨⟨Try.t49, _, by kernel_rfl, rfl, rfl, rfl, by kernel_rfl⟩, ⟨_, _, _, Try.underlying49⟩, by kernel_rfl⟩
theorem tok50 : Wk.TOk Try.prog 50 ⟨.func, 1, 8, [Go.Value.nilFunc]⟩ := ⟨⟨Try.t50, _, by kernel_rfl, rfl, rfl, rfl, by kernel_rfl⟩, ⟨_, _, _, Try.underlying50⟩, by kernel_rfl⟩
theorem tok51 : Wk.TOk Try.prog 51 ⟨.func, 1, 8, [Go.Value.nilFunc]⟩ := ⟨⟨Try.t51, _, by kernel_rfl, rfl, rfl, rfl, by kernel_rfl⟩, ⟨_, _, _, Try.underlying51⟩, by kernel_rfl⟩
theorem tok52 : Wk.TOk Try.prog 52 ⟨.slice 57, 1, 24, [(Go.Value.slice none 0 0)]⟩ := ⟨⟨Try.t52, _, by kernel_rfl, rfl, rfl, rfl, by kernel_rfl⟩, Try.underlying52, by kernel_rfl⟩
theorem tok53 : Wk.TOk Try.prog 53 ⟨.func, 1, 8, [Go.Value.nilFunc]⟩ := ⟨⟨Try.t53, _, by kernel_rfl, rfl, rfl, rfl, by kernel_rfl⟩, ⟨_, _, _, Try.underlying53⟩, by kernel_rfl⟩
theorem tok55 : Wk.TOk Try.prog 55 ⟨.func, 1, 8, [Go.Value.nilFunc]⟩ := ⟨⟨Try.t55, _, by kernel_rfl, rfl, rfl, rfl, by kernel_rfl⟩, ⟨_, _, _, Try.underlying55⟩, by kernel_rfl⟩
theorem tok56 : Wk.TOk Try.prog 56 ⟨.strct [(0, 3, 23), (3, 1, 3), (4, 1, 24), (5, 1, 3)], 6, 64, [(Go.Value.int Go.IntKind.i64 0), (Go.Value.int Go.IntKind.i64 0), (Go.Value.int Go.IntKind.i64 0), (Go.Value.int Go.IntKind.i64 0), (Go.Value.slice none 0 0), (Go.Value.int Go.IntKind.i64 0)]⟩ := ⟨⟨Try.t56, _, by kernel_rfl, rfl, rfl, rfl, by kernel_rfl⟩, ⟨_, Try.underlying56, by kernel_rfl, Try.stoodInHeld56, by kernel_rfl⟩, by kernel_rfl⟩
theorem tok57 : Wk.TOk Try.prog 57 ⟨.strct [(0, 3, 23), (3, 1, 3), (4, 1, 24), (5, 1, 3)], 6, 64, [(Go.Value.int Go.IntKind.i64 0), (Go.Value.int Go.IntKind.i64 0), (Go.Value.int Go.IntKind.i64 0), (Go.Value.int Go.IntKind.i64 0), (Go.Value.slice none 0 0), (Go.Value.int Go.IntKind.i64 0)]⟩ := ⟨⟨Try.t57, _, by kernel_rfl, rfl, rfl, rfl, by kernel_rfl⟩, ⟨_, Try.underlying57, by kernel_rfl, Try.stoodInHeld57, by kernel_rfl⟩, by kernel_rfl⟩
theorem tok58 : Wk.TOk Try.prog 58 ⟨.strct [(0, 1, 3), (1, 1, 9)], 2, 24, [(Go.Value.int Go.IntKind.i64 0), (Go.Value.string { data := #[] })]⟩ := ⟨⟨Try.t58, _, by kernel_rfl, rfl, rfl, rfl, by kernel_rfl⟩, ⟨_, Try.underlying58, by kernel_rfl, Try.stoodInHeld58, by kernel_rfl⟩, by kernel_rfl⟩
theorem tok59 : Wk.TOk Try.prog 59 ⟨.strct [(0, 1, 3), (1, 1, 9)], 2, 24, [(Go.Value.int Go.IntKind.i64 0), (Go.Value.string { data := #[] })]⟩ := ⟨⟨Try.t59, _, by kernel_rfl, rfl, rfl, rfl, by kernel_rfl⟩, ⟨_, Try.underlying59, by kernel_rfl, Try.stoodInHeld59, by kernel_rfl⟩, by kernel_rfl⟩
theorem tok60 : Wk.TOk Try.prog 60 ⟨.func, 1, 8, [Go.Value.nilFunc]⟩ := ⟨⟨Try.t60, _, by kernel_rfl, rfl, rfl, rfl, by kernel_rfl⟩, ⟨_, _, _, Try.underlying60⟩, by kernel_rfl⟩
theorem tok61 : Wk.TOk Try.prog 61 ⟨.slice 70, 1, 24, [(Go.Value.slice none 0 0)]⟩ := ⟨⟨Try.t61, _, by kernel_rfl, rfl, rfl, rfl, by kernel_rfl⟩, Try.underlying61, by kernel_rfl⟩
theorem tok62 : Wk.TOk Try.prog 62 ⟨.func, 1, 8, [Go.Value.nilFunc]⟩ := ⟨⟨Try.t62, _, by kernel_rfl, rfl, rfl, rfl, by kernel_rfl⟩, ⟨_, _, _, Try.underlying62⟩, by kernel_rfl⟩
theorem tok63 : Wk.TOk Try.prog 63 ⟨.strct [(0, 3, 23), (3, 1, 3), (4, 1, 24), (5, 1, 3), (6, 1, 9), (7, 1, 5), (8, 1, 9), (9, 1, 2)], 10, 112, [(Go.Value.int Go.IntKind.i64 0), (Go.Value.int Go.IntKind.i64 0), (Go.Value.int Go.IntKind.i64 0), (Go.Value.int Go.IntKind.i64 0), (Go.Value.slice none 0 0), (Go.Value.int Go.IntKind.i64 0), (Go.Value.string { data := #[] }), (Go.Value.int Go.IntKind.u8 0), (Go.Value.string { data := #[] }), (Go.Value.int Go.IntKind.i64 0)]⟩ := ⟨⟨Try.t63, _, by kernel_rfl, rfl, rfl, rfl, by kernel_rfl⟩, ⟨_, Try.underlying63, by kernel_rfl, Try.stoodInHeld63, by kernel_rfl⟩, by kernel_rfl⟩
theorem tok64 : Wk.TOk Try.prog 64 ⟨.strct [(0, 3, 23), (3, 1, 3), (4, 1, 24), (5, 1, 3), (6, 1, 9), (7, 1, 5), (8, 1, 9), (9, 1, 2)], 10, 112, [(Go.Value.int Go.IntKind.i64 0), (Go.Value.int Go.IntKind.i64 0), (Go.Value.int Go.IntKind.i64 0), (Go.Value.int Go.IntKind.i64 0), (Go.Value.slice none 0 0), (Go.Value.int Go.IntKind.i64 0), (Go.Value.string { data := #[] }), (Go.Value.int Go.IntKind.u8 0), (Go.Value.string { data := #[] }), (Go.Value.int Go.IntKind.i64 0)]⟩ := ⟨⟨Try.t64, _, by kernel_rfl, rfl, rfl, rfl, by kernel_rfl⟩, ⟨_, Try.underlying64, by kernel_rfl, Try.stoodInHeld64, by kernel_rfl⟩, by kernel_rfl⟩
theorem tok66 : Wk.TOk Try.prog 66 ⟨.func, 1, 8, [Go.Value.nilFunc]⟩ := ⟨⟨Try.t66, _, by kernel_rfl, rfl, rfl, rfl, by kernel_rfl⟩, ⟨_, _, _, Try.underlying66⟩, by kernel_rfl⟩
theorem tok67 : Wk.TOk Try.prog 67 ⟨.func, 1, 8, [Go.Value.nilFunc]⟩ := ⟨⟨Try.t67, _, by kernel_rfl, rfl, rfl, rfl, by kernel_rfl⟩, ⟨_, _, _, Try.underlying67⟩, by kernel_rfl⟩
theorem tok68 : Wk.TOk Try.prog 68 ⟨.func, 1, 8, [Go.Value.nilFunc]⟩ := ⟨⟨Try.t68, _, by kernel_rfl, rfl, rfl, rfl, by kernel_rfl⟩, ⟨_, _, _, Try.underlying68⟩, by kernel_rfl⟩
theorem tok69 : Wk.TOk Try.prog 69 ⟨.strct [(0, 1, 5), (1, 1, 4), (2, 1, 9), (3, 1, 2)], 4, 32, [(Go.Value.int Go.IntKind.u8 0), (Go.Value.bool false), (Go.Value.string { data := #[] }), (Go.Value.int Go.IntKind.i64 0)]⟩ := ⟨⟨Try.t69, _, by kernel_rfl, rfl, rfl, rfl, by kernel_rfl⟩, ⟨_, Try.underlying69, by kernel_rfl, Try.stoodInHeld69, by kernel_rfl⟩, by kernel_rfl⟩
theorem tok70 : Wk.TOk Try.prog 70 ⟨.strct [(0, 1, 5), (1, 1, 4), (2, 1, 9), (3, 1, 2)], 4, 32, [(Go.Value.int Go.IntKind.u8 0), (Go.Value.bool false), (Go.Value.string { data := #[] }), (Go.Value.int Go.IntKind.i64 0)]⟩ := ⟨⟨Try.t70, _, by kernel_rfl, rfl, rfl, rfl, by kernel_rfl⟩, ⟨_, Try.underlying70, by kernel_rfl, Try.stoodInHeld70, by kernel_rfl⟩, by kernel_rfl⟩
theorem tok71 : Wk.TOk Try.prog 71 ⟨.func, 1, 8, [Go.Value.nilFunc]⟩ := ⟨⟨Try.t71, _, by kernel_rfl, rfl, rfl, rfl, by kernel_rfl⟩, ⟨_, _, _, Try.underlying71⟩, by kernel_rfl⟩
theorem tok72 : Wk.TOk Try.prog 72 ⟨.func, 1, 8, [Go.Value.nilFunc]⟩ := ⟨⟨Try.t72, _, by kernel_rfl, rfl, rfl, rfl, by kernel_rfl⟩, ⟨_, _, _, Try.underlying72⟩, by kernel_rfl⟩
theorem tok73 : Wk.TOk Try.prog 73 ⟨.func, 1, 8, [Go.Value.nilFunc]⟩ := ⟨⟨Try.t73, _, by kernel_rfl, rfl, rfl, rfl, by kernel_rfl⟩, ⟨_, _, _, Try.underlying73⟩, by kernel_rfl⟩
theorem tok75 : Wk.TOk Try.prog 75 ⟨.func, 1, 8, [Go.Value.nilFunc]⟩ := ⟨⟨Try.t75, _, by kernel_rfl, rfl, rfl, rfl, by kernel_rfl⟩, ⟨_, _, _, Try.underlying75⟩, by kernel_rfl⟩
theorem tok76 : Wk.TOk Try.prog 76 ⟨.func, 1, 8, [Go.Value.nilFunc]⟩ := ⟨⟨Try.t76, _, by kernel_rfl, rfl, rfl, rfl, by kernel_rfl⟩, ⟨_, _, _, Try.underlying76⟩, by kernel_rfl⟩
theorem tok77 : Wk.TOk Try.prog 77 ⟨.func, 1, 8, [Go.Value.nilFunc]⟩ := ⟨⟨Try.t77, _, by kernel_rfl, rfl, rfl, rfl, by kernel_rfl⟩, ⟨_, _, _, Try.underlying77⟩, by kernel_rfl⟩
theorem tok78 : Wk.TOk Try.prog 78 ⟨.func, 1, 8, [Go.Value.nilFunc]⟩ := ⟨⟨Try.t78, _, by kernel_rfl, rfl, rfl, rfl, by kernel_rfl⟩, ⟨_, _, _, Try.underlying78⟩, by kernel_rfl⟩
theorem tok79 : Wk.TOk Try.prog 79 ⟨.func, 1, 8, [Go.Value.nilFunc]⟩ := ⟨⟨Try.t79, _, by kernel_rfl, rfl, rfl, rfl, by kernel_rfl⟩, ⟨_, _, _, Try.underlying79⟩, by kernel_rfl⟩
theorem tok80 : Wk.TOk Try.prog 80 ⟨.func, 1, 8, [Go.Value.nilFunc]⟩ := ⟨⟨Try.t80, _, by kernel_rfl, rfl, rfl, rfl, by kernel_rfl⟩, ⟨_, _, _, Try.underlying80⟩, by kernel_rfl⟩
theorem tok81 : Wk.TOk Try.prog 81 ⟨.func, 1, 8, [Go.Value.nilFunc]⟩ := ⟨⟨Try.t81, _, by kernel_rfl, rfl, rfl, rfl, by kernel_rfl⟩, ⟨_, _, _, Try.underlying81⟩, by kernel_rfl⟩
theorem tok82 : Wk.TOk Try.prog 82 ⟨.func, 1, 8, [Go.Value.nilFunc]⟩ := ⟨⟨Try.t82, _, by kernel_rfl, rfl, rfl, rfl, by kernel_rfl⟩, ⟨_, _, _, Try.underlying82⟩, by kernel_rfl⟩
theorem tok83 : Wk.TOk Try.prog 83 ⟨.func, 1, 8, [Go.Value.nilFunc]⟩ := ⟨⟨Try.t83, _, by kernel_rfl, rfl, rfl, rfl, by kernel_rfl⟩, ⟨_, _, _, Try.underlying83⟩, by kernel_rfl⟩
theorem tok84 : Wk.TOk Try.prog 84 ⟨.func, 1, 8, [Go.Value.nilFunc]⟩ := ⟨⟨Try.t84, _, by kernel_rfl, rfl, rfl, rfl, by kernel_rfl⟩, ⟨_, _, _, Try.underlying84⟩, by kernel_rfl⟩
theorem tok85 : Wk.TOk Try.prog 85 ⟨.func, 1, 8, [Go.Value.nilFunc]⟩ := ⟨⟨Try.t85, _, by kernel_rfl, rfl, rfl, rfl, by kernel_rfl⟩, ⟨_, _, _, Try.underlying85⟩, by kernel_rfl⟩
theorem tok86 : Wk.TOk Try.prog 86 ⟨.func, 1, 8, [Go.Value.nilFunc]⟩ := ⟨⟨Try.t86, _, by kernel_rfl, rfl, rfl, rfl, by kernel_rfl⟩, ⟨_, _, _, Try.underlying86⟩, by kernel_rfl⟩
theorem tok87 : Wk.TOk Try.prog 87 ⟨.func, 1, 8, [Go.Value.nilFunc]⟩ := ⟨⟨Try.t87, _, by kernel_rfl, rfl, rfl, rfl, by kernel_rfl⟩, ⟨_, _, _, Try.underlying87⟩, by kernel_rfl⟩
theorem tok88 : Wk.TOk Try.prog 88 ⟨.func, 1, 8, [Go.Value.nilFunc]⟩ := ⟨⟨Try.t88, _, by kernel_rfl, rfl, rfl, rfl, by kernel_rfl⟩, ⟨_, _, _, Try.underlying88⟩, by kernel_rfl⟩
theorem tok89 : Wk.TOk Try.prog 89 ⟨.func, 1, 8, [Go.Value.nilFunc]⟩ := ⟨⟨Try.t89, _, by kernel_rfl, rfl, rfl, rfl, by kernel_rfl⟩, ⟨_, _, _, Try.underlying89⟩, by kernel_rfl⟩
theorem tok91 : Wk.TOk Try.prog 91 ⟨.func, 1, 8, [Go.Value.nilFunc]⟩ := ⟨⟨Try.t91, _, by kernel_rfl, rfl, rfl, rfl, by kernel_rfl⟩, ⟨_, _, _, Try.underlying91⟩, by kernel_rfl⟩
theorem tok92 : Wk.TOk Try.prog 92 ⟨.func, 1, 8, [Go.Value.nilFunc]⟩ := ⟨⟨Try.t92, _, by kernel_rfl, rfl, rfl, rfl, by kernel_rfl⟩, ⟨_, _, _, Try.underlying92⟩, by kernel_rfl⟩
theorem tok93 : Wk.TOk Try.prog 93 ⟨.func, 1, 8, [Go.Value.nilFunc]⟩ := ⟨⟨Try.t93, _, by kernel_rfl, rfl, rfl, rfl, by kernel_rfl⟩, ⟨_, _, _, Try.underlying93⟩, by kernel_rfl⟩
theorem tok95 : Wk.TOk Try.prog 95 ⟨.func, 1, 8, [Go.Value.nilFunc]⟩ := ⟨⟨Try.t95, _, by kernel_rfl, rfl, rfl, rfl, by kernel_rfl⟩, ⟨_, _, _, Try.underlying95⟩, by kernel_rfl⟩
theorem tok96 : Wk.TOk Try.prog 96 ⟨.func, 1, 8, [Go.Value.nilFunc]⟩ := ⟨⟨Try.t96, _, by kernel_rfl, rfl, rfl, rfl, by kernel_rfl⟩, ⟨_, _, _, Try.underlying96⟩, by kernel_rfl⟩
theorem tok97 : Wk.TOk Try.prog 97 ⟨.func, 1, 8, [Go.Value.nilFunc]⟩ := ⟨⟨Try.t97, _, by kernel_rfl, rfl, rfl, rfl, by kernel_rfl⟩, ⟨_, _, _, Try.underlying97⟩, by kernel_rfl⟩
theorem tok98 : Wk.TOk Try.prog 98 ⟨.func, 1, 8, [Go.Value.nilFunc]⟩ := ⟨⟨Try.t98, _, by kernel_rfl, rfl, rfl, rfl, by kernel_rfl⟩, ⟨_, _, _, Try.underlying98⟩, by kernel_rfl⟩
theorem tok99 : Wk.TOk Try.prog 99 ⟨.func, 1, 8, [Go.Value.nilFunc]⟩ := ⟨⟨Try.t99, _, by kernel_rfl, rfl, rfl, rfl, by kernel_rfl⟩, ⟨_, _, _, Try.underlying99⟩, by kernel_rfl⟩
theorem tok100 : Wk.TOk Try.prog 100 ⟨.func, 1, 8, [Go.Value.nilFunc]⟩ := ⟨⟨Try.t100, _, by kernel_rfl, rfl, rfl, rfl, by kernel_rfl⟩, ⟨_, _, _, Try.underlying100⟩, by kernel_rfl⟩
theorem tok101 : Wk.TOk Try.prog 101 ⟨.strct [(0, 1, 9), (1, 1, 3), (2, 1, 3), (3, 1, 43), (4, 1, 99), (5, 1, 100)], 6, 56, [(Go.Value.string { data := #[] }), (Go.Value.int Go.IntKind.i64 0), (Go.Value.int Go.IntKind.i64 0), Go.Value.nilFunc, Go.Value.nilFunc, Go.Value.nilFunc]⟩ := ⟨⟨Try.t101, _, by kernel_rfl, rfl, rfl, rfl, by kernel_rfl⟩, ⟨_, Try.underlying101, by kernel_rfl, Try.stoodInHeld101, by kernel_rfl⟩, by kernel_rfl⟩
theorem tok102 : Wk.TOk Try.prog 102 ⟨.strct [(0, 1, 9), (1, 1, 3), (2, 1, 3), (3, 1, 43), (4, 1, 99), (5, 1, 100)], 6, 56, [(Go.Value.string { data := #[] }), (Go.Value.int Go.IntKind.i64 0), (Go.Value.int Go.IntKind.i64 0), Go.Value.nilFunc, Go.Value.nilFunc, Go.Value.nilFunc]⟩ := ⟨⟨Try.t102, _, by kernel_rfl, rfl, rfl, rfl, by kernel_rfl⟩, ⟨_, Try.underlying102, by kernel_rfl, Try.stoodInHeld102, by kernel_rfl⟩, by kernel_rfl⟩
theorem tok103 : Wk.TOk Try.prog 103 ⟨.map 5 102, 1, 8, [(Go.Value.map none)]⟩ := ⟨⟨Try.t103, _, by kernel_rfl, rfl, rfl, rfl, by kernel_rfl⟩, Try.underlying103, by kernel_rfl⟩
theorem tok104 : Wk.TOk Try.prog 104 ⟨.func, 1, 8, [Go.Value.nilFunc]⟩ := ⟨⟨Try.t104, _, by kernel_rfl, rfl, rfl, rfl, by kernel_rfl⟩, ⟨_, _, _, Try.underlying104⟩, by kernel_rfl⟩
theorem tok106 : Wk.TOk Try.prog 106 ⟨.func, 1, 8, [Go.Value.nilFunc]⟩ := ⟨⟨Try.t106, _, by kernel_rfl, rfl, rfl, rfl, by kernel_rfl⟩, ⟨_, _, _, Try.underlying106⟩, by kernel_rfl⟩
theorem tok107 : Wk.TOk Try.prog 107 ⟨.func, 1, 8, [Go.Value.nilFunc]⟩ := ⟨⟨Try.t107, _, by kernel_rfl, rfl, rfl, rfl, by kernel_rfl⟩, ⟨_, _, _, Try.underlying107⟩, by kernel_rfl⟩
theorem tok108 : Wk.TOk Try.prog 108 ⟨.func, 1, 8, [Go.Value.nilFunc]⟩ := ⟨⟨Try.t108, _, by kernel_rfl, rfl, rfl, rfl, by kernel_rfl⟩, ⟨_, _, _, Try.underlying108⟩, by kernel_rfl⟩
theorem tok109 : Wk.TOk Try.prog 109 ⟨.func, 1, 8, [Go.Value.nilFunc]⟩ := ⟨⟨Try.t109, _, by kernel_rfl, rfl, rfl, rfl, by kernel_rfl⟩, ⟨_, _, _, Try.underlying109⟩, by kernel_rfl⟩
theorem tok110 : Wk.TOk Try.prog 110 ⟨.func, 1, 8, [Go.Value.nilFunc]⟩ := ⟨⟨Try.t110, _, by kernel_rfl, rfl, rfl, rfl, by kernel_rfl⟩, ⟨_, _, _, Try.underlying110⟩, by kernel_rfl⟩
theorem tok111 : Wk.TOk Try.prog 111 ⟨.func, 1, 8, [Go.Value.nilFunc]⟩ := ⟨⟨Try.t111, _, by kernel_rfl, rfl, rfl, rfl, by kernel_rfl⟩, ⟨_, _, _, Try.underlying111⟩, by kernel_rfl⟩
theorem tok112 : Wk.TOk Try.prog 112 ⟨.func, 1, 8, [Go.Value.nilFunc]⟩ := ⟨⟨Try.t112, _, by kernel_rfl, rfl, rfl, rfl, by kernel_rfl⟩, ⟨_, _, _, Try.underlying112⟩, by kernel_rfl⟩
theorem tok113 : Wk.TOk Try.prog 113 ⟨.func, 1, 8, [Go.Value.nilFunc]⟩ := ⟨⟨Try.t113, _, by kernel_rfl, rfl, rfl, rfl, by kernel_rfl⟩, ⟨_, _, _, Try.underlying113⟩, by kernel_rfl⟩
theorem tok114 : Wk.TOk Try.prog 114 ⟨.func, 1, 8, [Go.Value.nilFunc]⟩ := ⟨⟨Try.t114, _, by kernel_rfl, rfl, rfl, rfl, by kernel_rfl⟩, ⟨_, _, _, Try.underlying114⟩, by kernel_rfl⟩
theorem tok115 : Wk.TOk Try.prog 115 ⟨.strct [(0, 6, 57)], 6, 64, [(Go.Value.int Go.IntKind.i64 0), (Go.Value.int Go.IntKind.i64 0), (Go.Value.int Go.IntKind.i64 0), (Go.Value.int Go.IntKind.i64 0), (Go.Value.slice none 0 0), (Go.Value.int Go.IntKind.i64 0)]⟩ := ⟨⟨Try.t115, _, by kernel_rfl, rfl, rfl, rfl, by kernel_rfl⟩, ⟨_, Try.underlying115, by kernel_rfl, Try.stoodInHeld115, by kernel_rfl⟩, by kernel_rfl⟩
theorem tok116 : Wk.TOk Try.prog 116 ⟨.strct [(0, 6, 57)], 6, 64, [(Go.Value.int Go.IntKind.i64 0), (Go.Value.int Go.IntKind.i64 0), (Go.Value.int Go.IntKind.i64 0), (Go.Value.int Go.IntKind.i64 0), (Go.Value.slice none 0 0), (Go.Value.int Go.IntKind.i64 0)]⟩ := ⟨⟨Try.t116, _, by kernel_rfl, rfl, rfl, rfl, by kernel_rfl⟩, ⟨_, Try.underlying116, by kernel_rfl, Try.stoodInHeld116, by kernel_rfl⟩, by kernel_rfl⟩
theorem tok117 : Wk.TOk Try.prog 117 ⟨.func, 1, 8, [Go.Value.nilFunc]⟩ := ⟨⟨Try.t117, _, by kernel_rfl, rfl, rfl, rfl, by kernel_rfl⟩, ⟨_, _, _, Try.underlying117⟩, by kernel_rfl⟩
theorem tok118 : Wk.TOk Try.prog 118 ⟨.func, 1, 8, [Go.Value.nilFunc]⟩ := ⟨⟨Try.t118, _, by kernel_rfl, rfl, rfl, rfl, by kernel_rfl⟩, ⟨_, _, _, Try.underlying118⟩, by kernel_rfl⟩
theorem tok119 : Wk.TOk Try.prog 119 ⟨.func, 1, 8, [Go.Value.nilFunc]⟩ := ⟨⟨Try.t119, _, by kernel_rfl, rfl, rfl, rfl, by kernel_rfl⟩, ⟨_, _, _, Try.underlying119⟩, by kernel_rfl⟩
theorem tok120 : Wk.TOk Try.prog 120 ⟨.strct [(0, 1, 4), (1, 1, 4), (2, 1, 4), (3, 1, 4), (4, 1, 4)], 5, 5, [(Go.Value.bool false), (Go.Value.bool false), (Go.Value.bool false), (Go.Value.bool false), (Go.Value.bool false)]⟩ := ⟨⟨Try.t120, _, by kernel_rfl, rfl, rfl, rfl, by kernel_rfl⟩, ⟨_, Try.underlying120, by kernel_rfl, Try.stoodInHeld120, by kernel_rfl⟩, by kernel_rfl⟩
theorem tok121 : Wk.TOk Try.prog 121 ⟨.strct [(0, 1, 4), (1, 1, 4), (2, 1, 4), (3, 1, 4), (4, 1, 4)], 5, 5, [(Go.Value.bool false), (Go.Value.bool false), (Go.Value.bool false), (Go.Value.bool false), (Go.Value.bool false)]⟩ := ⟨⟨Try.t121, _, by kernel_rfl, rfl, rfl, rfl, by kernel_rfl⟩, ⟨_, Try.underlying121, by kernel_rfl, Try.stoodInHeld121, by kernel_rfl⟩, by kernel_rfl⟩
theorem tok122 : Wk.TOk Try.prog 122 ⟨.arr 6 121, 30, 30, [(Go.Value.bool false), (Go.Value.bool false), (Go.Value.bool false), (Go.Value.bool false), (Go.Value.bool false), (Go.Value.bool false), (Go.Value.bool false), (Go.Value.bool false), (Go.Value.bool false), (Go.Value.bool false), (Go.Value.bool false), (Go.Value.bool false), (Go.Value.bool false), (Go.Value.bool false), (Go.Value.bool false), (Go.Value.bool false), (Go.Value.bool false), (Go.Value.bool false), (Go.Value.bool false), (Go.Value.bool false), (Go.Value.bool false), (Go.Value.bool false), (Go.Value.bool false), (Go.Value.bool false), (Go.Value.bool false), (Go.Value.bool false), (Go.Value.bool false), (Go.Value.bool false), (Go.Value.bool false), (Go.Value.bool false)]⟩ := ⟨⟨Try.t122, _, by kernel_rfl, rfl, rfl, rfl, by kernel_rfl⟩, Try.underlying122, by kernel_rfl⟩
theorem tok123 : Wk.TOk Try.prog 123 ⟨.func, 1, 8, [Go.Value.nilFunc]⟩ := ⟨⟨Try.t123, _, by kernel_rfl, rfl, rfl, rfl, by kernel_rfl⟩, ⟨_, _, _, Try.underlying123⟩, by kernel_rfl⟩
theorem tok124 : Wk.TOk Try.prog 124 ⟨.strct [(0, 1, 31)], 1, 8, [(Go.Value.int Go.IntKind.i64 0)]⟩ := ⟨⟨Try.t124, _, by kernel_rfl, rfl, rfl, rfl, by kernel_rfl⟩, ⟨_, Try.underlying124, by kernel_rfl, Try.stoodInHeld124, by kernel_rfl⟩, by kernel_rfl⟩
theorem tok125 : Wk.TOk Try.prog 125 ⟨.strct [(0, 1, 31)], 1, 8, [(Go.Value.int Go.IntKind.i64 0)]⟩ := ⟨⟨Try.t125, _, by kernel_rfl, rfl, rfl, rfl, by kernel_rfl⟩, ⟨_, Try.underlying125, by kernel_rfl, Try.stoodInHeld125, by kernel_rfl⟩, by kernel_rfl⟩
theorem tok127 : Wk.TOk Try.prog 127 ⟨.func, 1, 8, [Go.Value.nilFunc]⟩ := ⟨⟨Try.t127, _, by kernel_rfl, rfl, rfl, rfl, by kernel_rfl⟩, ⟨_, _, _, Try.underlying127⟩, by kernel_rfl⟩
theorem tok128 : Wk.TOk Try.prog 128 ⟨.func, 1, 8, [Go.Value.nilFunc]⟩ := ⟨⟨Try.t128, _, by kernel_rfl, rfl, rfl, rfl, by kernel_rfl⟩, ⟨_, _, _, Try.underlying128⟩, by kernel_rfl⟩
theorem tok130 : Wk.TOk Try.prog 130 ⟨.func, 1, 8, [Go.Value.nilFunc]⟩ := ⟨⟨Try.t130, _, by kernel_rfl, rfl, rfl, rfl, by kernel_rfl⟩, ⟨_, _, _, Try.underlying130⟩, by kernel_rfl⟩
theorem tok131 : Wk.TOk Try.prog 131 ⟨.func, 1, 8, [Go.Value.nilFunc]⟩ := ⟨⟨Try.t131, _, by kernel_rfl, rfl, rfl, rfl, by kernel_rfl⟩, ⟨_, _, _, Try.underlying131⟩, by kernel_rfl⟩
theorem tok132 : Wk.TOk Try.prog 132 ⟨.map 3 3, 1, 8, [(Go.Value.map none)]⟩ := ⟨⟨Try.t132, _, by kernel_rfl, rfl, rfl, rfl, by kernel_rfl⟩, Try.underlying132, by kernel_rfl⟩
theorem tok134 : Wk.TOk Try.prog 134 ⟨.func, 1, 8, [Go.Value.nilFunc]⟩ := ⟨⟨Try.t134, _, by kernel_rfl, rfl, rfl, rfl, by kernel_rfl⟩, ⟨_, _, _, Try.underlying134⟩, by kernel_rfl⟩
theorem tok135 : Wk.TOk Try.prog 135 ⟨.func, 1, 8, [Go.Value.nilFunc]⟩ := ⟨⟨Try.t135, _, by kernel_rfl, rfl, rfl, rfl, by kernel_rfl⟩, ⟨_, _, _, Try.underlying135⟩, by kernel_rfl⟩
theorem tok136 : Wk.TOk Try.prog 136 ⟨.func, 1, 8, [Go.Value.nilFunc]⟩ := ⟨⟨Try.t136, _, by kernel_rfl, rfl, rfl, rfl, by kernel_rfl⟩, ⟨_, _, _, Try.underlying136⟩, by kernel_rfl⟩
theorem tok137 : Wk.TOk Try.prog 137 ⟨.int Go.IntKind.u64, 1, 8, [(Go.Value.int Go.IntKind.u64 0)]⟩ := ⟨⟨Try.t137, _, by kernel_rfl, rfl, rfl, rfl, by kernel_rfl⟩, Try.underlying137, by kernel_rfl⟩
theorem tok138 : Wk.TOk Try.prog 138 ⟨.func, 1, 8, [Go.Value.nilFunc]⟩ := ⟨⟨Try.t138, _, by kernel_rfl, rfl, rfl, rfl, by kernel_rfl⟩, ⟨_, _, _, Try.underlying138⟩, by kernel_rfl⟩
theorem tok139 : Wk.TOk Try.prog 139 ⟨.func, 1, 8, [Go.Value.nilFunc]⟩ := ⟨⟨Try.t139, _, by kernel_rfl, rfl, rfl, rfl, by kernel_rfl⟩, ⟨_, _, _, Try.underlying139⟩, by kernel_rfl⟩
theorem tok140 : Wk.TOk Try.prog 140 ⟨.func, 1, 8, [Go.Value.nilFunc]⟩ := ⟨⟨Try.t140, _, by kernel_rfl, rfl, rfl, rfl, by kernel_rfl⟩, ⟨_, _, _, Try.underlying140⟩, by kernel_rfl⟩
theorem tok141 : Wk.TOk Try.prog 141 ⟨.func, 1, 8, [Go.Value.nilFunc]⟩ := ⟨⟨Try.t141, _, by kernel_rfl, rfl, rfl, rfl, by kernel_rfl⟩, ⟨_, _, _, Try.underlying141⟩, by kernel_rfl⟩
theorem tok142 : Wk.TOk Try.prog 142 ⟨.func, 1, 8, [Go.Value.nilFunc]⟩ := ⟨⟨Try.t142, _, by kernel_rfl, rfl, rfl, rfl, by kernel_rfl⟩, ⟨_, _, _, Try.underlying142⟩, by kernel_rfl⟩
theorem tok143 : Wk.TOk Try.prog 143 ⟨.func, 1, 8, [Go.Value.nilFunc]⟩ := ⟨⟨Try.t143, _, by kernel_rfl, rfl, rfl, rfl, by kernel_rfl⟩, ⟨_, _, _, Try.underlying143⟩, by kernel_rfl⟩
theorem tok144 : Wk.TOk Try.prog 144 ⟨.func, 1, 8, [Go.Value.nilFunc]⟩ := ⟨⟨Try.t144, _, by kernel_rfl, rfl, rfl, rfl, by kernel_rfl⟩, ⟨_, _, _, Try.underlying144⟩, by kernel_rfl⟩
theorem tok145 : Wk.TOk Try.prog 145 ⟨.func, 1, 8, [Go.Value.nilFunc]⟩ := ⟨⟨Try.t145, _, by kernel_rfl, rfl, rfl, rfl, by kernel_rfl⟩, ⟨_, _, _, Try.underlying145⟩, by kernel_rfl⟩
theorem tok146 : Wk.TOk Try.prog 146 ⟨.strct [], 0, 0, []⟩ := ⟨⟨Try.t146, _, by kernel_rfl, rfl, rfl, rfl, by kernel_rfl⟩, ⟨_, Try.underlying146, by kernel_rfl, Try.stoodInHeld146, by kernel_rfl⟩, by kernel_rfl⟩
theorem tok147 : Wk.TOk Try.prog 147 ⟨.strct [], 0, 0, []⟩ := ⟨⟨Try.t147, _, by kernel_rfl, rfl, rfl, rfl, by kernel_rfl⟩, ⟨_, Try.underlying147, by kernel_rfl, Try.stoodInHeld147, by kernel_rfl⟩, by kernel_rfl⟩
theorem tok149 : Wk.TOk Try.prog 149 ⟨.func, 1, 8, [Go.Value.nilFunc]⟩ := ⟨⟨Try.t149, _, by kernel_rfl, rfl, rfl, rfl, by kernel_rfl⟩, ⟨_, _, _, Try.underlying149⟩, by kernel_rfl⟩
theorem tok151 : Wk.TOk Try.prog 151 ⟨.func, 1, 8, [Go.Value.nilFunc]⟩ := ⟨⟨Try.t151, _, by kernel_rfl, rfl, rfl, rfl, by kernel_rfl⟩, ⟨_, _, _, Try.underlying151⟩, by kernel_rfl⟩
theorem tok152 : Wk.TOk Try.prog 152 ⟨.func, 1, 8, [Go.Value.nilFunc]⟩ := ⟨⟨Try.t152, _, by kernel_rfl, rfl, rfl, rfl, by kernel_rfl⟩, ⟨_, _, _, Try.underlying152⟩, by kernel_rfl⟩
theorem tok153 : Wk.TOk Try.prog 153 ⟨.func, 1, 8, [Go.Value.nilFunc]⟩ := ⟨⟨Try.t153, _, by kernel_rfl, rfl, rfl, rfl, by kernel_rfl⟩, ⟨_, _, _, Try.underlying153⟩, by kernel_rfl⟩
theorem tok154 : Wk.TOk Try.prog 154 ⟨.ptr 42, 1, 8, [(Go.Value.pointer none)]⟩ := ⟨⟨Try.t154, _, by kernel_rfl, rfl, rfl, rfl, by kernel_rfl⟩, Try.underlying154, by kernel_rfl⟩
theorem tok155 : Wk.TOk Try.prog 155 ⟨.func, 1, 8, [Go.Value.nilFunc]⟩ := ⟨⟨Try.t155, _, by kernel_rfl, rfl, rfl, rfl, by kernel_rfl⟩, ⟨_, _, _, Try.underlying155⟩, by kernel_rfl⟩
theorem tok156 : Wk.TOk Try.prog 156 ⟨.func, 1, 8, [Go.Value.nilFunc]⟩ := ⟨⟨Try.t156, _, by kernel_rfl, rfl, rfl, rfl, by kernel_rfl⟩, ⟨_, _, _, Try.underlying156⟩, by kernel_rfl⟩
theorem tok157 : Wk.TOk Try.prog 157 ⟨.func, 1, 8, [Go.Value.nilFunc]⟩ := ⟨⟨Try.t157, _, by kernel_rfl, rfl, rfl, rfl, by kernel_rfl⟩, ⟨_, _, _, Try.underlying157⟩, by kernel_rfl⟩
theorem tok158 : Wk.TOk Try.prog 158 ⟨.func, 1, 8, [Go.Value.nilFunc]⟩ := ⟨⟨Try.t158, _, by kernel_rfl, rfl, rfl, rfl, by kernel_rfl⟩, ⟨_, _, _, Try.underlying158⟩, by kernel_rfl⟩
theorem tok160 : Wk.TOk Try.prog 160 ⟨.func, 1, 8, [Go.Value.nilFunc]⟩ := ⟨⟨Try.t160, _, by kernel_rfl, rfl, rfl, rfl, by kernel_rfl⟩, ⟨_, _, _, Try.underlying160⟩, by kernel_rfl⟩
theorem tok161 : Wk.TOk Try.prog 161 ⟨.ptr 164, 1, 8, [(Go.Value.pointer none)]⟩ := ⟨⟨Try.t161, _, by kernel_rfl, rfl, rfl, rfl, by kernel_rfl⟩, Try.underlying161, by kernel_rfl⟩
theorem tok162 : Wk.TOk Try.prog 162 ⟨.slice 5, 1, 24, [(Go.Value.slice none 0 0)]⟩ := ⟨⟨Try.t162, _, by kernel_rfl, rfl, rfl, rfl, by kernel_rfl⟩, Try.underlying162, by kernel_rfl⟩
theorem tok163 : Wk.TOk Try.prog 163 ⟨.strct [(0, 1, 161), (1, 1, 162)], 2, 32, [(Go.Value.pointer none), (Go.Value.slice none 0 0)]⟩ := ⟨⟨Try.t163, _, by kernel_rfl, rfl, rfl, rfl, by kernel_rfl⟩, ⟨_, Try.underlying163, by kernel_rfl, Try.stoodInHeld163, by kernel_rfl⟩, by kernel_rfl⟩
theorem tok164 : Wk.TOk Try.prog 164 ⟨.strct [(0, 1, 161), (1, 1, 162)], 2, 32, [(Go.Value.pointer none), (Go.Value.slice none 0 0)]⟩ := ⟨⟨Try.t164, _, by kernel_rfl, rfl, rfl, rfl, by kernel_rfl⟩, ⟨_, Try.underlying164, by kernel_rfl, Try.stoodInHeld164, by kernel_rfl⟩, by kernel_rfl⟩
theorem tok165 : Wk.TOk Try.prog 165 ⟨.iface, 1, 16, [Go.Value.nilIface]⟩ := ⟨⟨Try.t165, _, by kernel_rfl, rfl, rfl, rfl, by kernel_rfl⟩, ⟨_, Try.underlying165⟩, by kernel_rfl⟩
theorem tok166 : Wk.TOk Try.prog 166 ⟨.iface, 1, 16, [Go.Value.nilIface]⟩ := ⟨⟨Try.t166, _, by kernel_rfl, rfl, rfl, rfl, by kernel_rfl⟩, ⟨_, Try.underlying166⟩, by kernel_rfl⟩
theorem tok168 : Wk.TOk Try.prog 168 ⟨.func, 1, 8, [Go.Value.nilFunc]⟩ := ⟨⟨Try.t168, _, by kernel_rfl, rfl, rfl, rfl, by kernel_rfl⟩, ⟨_, _, _, Try.underlying168⟩, by kernel_rfl⟩
theorem tok169 : Wk.TOk Try.prog 169 ⟨.func, 1, 8, [Go.Value.nilFunc]⟩ := ⟨⟨Try.t169, _, by kernel_rfl, rfl, rfl, rfl, by kernel_rfl⟩, ⟨_, _, _, Try.underlying169⟩, by kernel_rfl⟩
theorem tok170 : Wk.TOk Try.prog 170 ⟨.func, 1, 8, [Go.Value.nilFunc]⟩ := ⟨⟨Try.t170, _, by kernel_rfl, rfl, rfl, rfl, by kernel_rfl⟩, ⟨_, _, _, Try.underlying170⟩, by kernel_rfl⟩
theorem tok171 : Wk.TOk Try.prog 171 ⟨.arr 9 5, 9, 9, [(Go.Value.int Go.IntKind.u8 0), (Go.Value.int Go.IntKind.u8 0), (Go.Value.int Go.IntKind.u8 0), (Go.Value.int Go.IntKind.u8 0), (Go.Value.int Go.IntKind.u8 0), (Go.Value.int Go.IntKind.u8 0), (Go.Value.int Go.IntKind.u8 0), (Go.Value.int Go.IntKind.u8 0), (Go.Value.int Go.IntKind.u8 0)]⟩ := ⟨⟨Try.t171, _, by kernel_rfl, rfl, rfl, rfl, by kernel_rfl⟩, Try.underlying171, by kernel_rfl⟩
theorem tok172 : Wk.TOk Try.prog 172 ⟨.int Go.IntKind.u64, 1, 8, [(Go.Value.int Go.IntKind.u64 0)]⟩ := ⟨⟨Try.t172, _, by kernel_rfl, rfl, rfl, rfl, by kernel_rfl⟩, Try.underlying172, by kernel_rfl⟩
theorem tok173 : Wk.TOk Try.prog 173 ⟨.strct [(0, 1, 31)], 1, 8, [(Go.Value.int Go.IntKind.i64 0)]⟩ := ⟨⟨Try.t173, _, by kernel_rfl, rfl, rfl, rfl, by kernel_rfl⟩, ⟨_, Try.underlying173, by kernel_rfl, Try.stoodInHeld173, by kernel_rfl⟩, by kernel_rfl⟩
theorem tok174 : Wk.TOk Try.prog 174 ⟨.strct [(0, 1, 31)], 1, 8, [(Go.Value.int Go.IntKind.i64 0)]⟩ := ⟨⟨Try.t174, _, by kernel_rfl, rfl, rfl, rfl, by kernel_rfl⟩, ⟨_, Try.underlying174, by kernel_rfl, Try.stoodInHeld174, by kernel_rfl⟩, by kernel_rfl⟩
theorem tok177 : Wk.TOk Try.prog 177 ⟨.func, 1, 8, [Go.Value.nilFunc]⟩ := ⟨⟨Try.t177, _, by kernel_rfl, rfl, rfl, rfl, by kernel_rfl⟩, ⟨_, _, _, Try.underlying177⟩, by kernel_rfl⟩
theorem tok179 : Wk.TOk Try.prog 179 ⟨.func, 1, 8, [Go.Value.nilFunc]⟩ := ⟨⟨Try.t179, _, by kernel_rfl, rfl, rfl, rfl, by kernel_rfl⟩, ⟨_, _, _, Try.underlying179⟩, by kernel_rfl⟩
theorem tok180 : Wk.TOk Try.prog 180 ⟨.func, 1, 8, [Go.Value.nilFunc]⟩ := ⟨⟨Try.t180, _, by kernel_rfl, rfl, rfl, rfl, by kernel_rfl⟩, ⟨_, _, _, Try.underlying180⟩, by kernel_rfl⟩
theorem tok181 : Wk.TOk Try.prog 181 ⟨.func, 1, 8, [Go.Value.nilFunc]⟩ := ⟨⟨Try.t181, _, by kernel_rfl, rfl, rfl, rfl, by kernel_rfl⟩, ⟨_, _, _, Try.underlying181⟩, by kernel_rfl⟩
theorem tok182 : Wk.TOk Try.prog 182 ⟨.func, 1, 8, [Go.Value.nilFunc]⟩ := ⟨⟨Try.t182, _, by kernel_rfl, rfl, rfl, rfl, by kernel_rfl⟩, ⟨_, _, _, Try.underlying182⟩, by kernel_rfl⟩
theorem tok184 : Wk.TOk Try.prog 184 ⟨.func, 1, 8, [Go.Value.nilFunc]⟩ := ⟨⟨Try.t184, _, by kernel_rfl, rfl, rfl, rfl, by kernel_rfl⟩, ⟨_, _, _, Try.underlying184⟩, by kernel_rfl⟩
theorem tok185 : Wk.TOk Try.prog 185 ⟨.ptr 5, 1, 8, [(Go.Value.pointer none)]⟩ := ⟨⟨Try.t185, _, by kernel_rfl, rfl, rfl, rfl, by kernel_rfl⟩, Try.underlying185, by kernel_rfl⟩
theorem tok186 : Wk.TOk Try.prog 186 ⟨.func, 1, 8, [Go.Value.nilFunc]⟩ := ⟨⟨Try.t186, _, by kernel_rfl, rfl, rfl, rfl, by kernel_rfl⟩, ⟨_, _, _, Try.underlying186⟩, by kernel_rfl⟩
theorem tok188 : Wk.TOk Try.prog 188 ⟨.func, 1, 8, [Go.Value.nilFunc]⟩ := ⟨⟨Try.t188, _, by kernel_rfl, rfl, rfl, rfl, by kernel_rfl⟩, ⟨_, _, _, Try.underlying188⟩, by kernel_rfl⟩
theorem tok189 : Wk.TOk Try.prog 189 ⟨.func, 1, 8, [Go.Value.nilFunc]⟩ := ⟨⟨Try.t189, _, by kernel_rfl, rfl, rfl, rfl, by kernel_rfl⟩, ⟨_, _, _, Try.underlying189⟩, by kernel_rfl⟩
theorem tok190 : Wk.TOk Try.prog 190 ⟨.func, 1, 8, [Go.Value.nilFunc]⟩ := ⟨⟨Try.t190, _, by kernel_rfl, rfl, rfl, rfl, by kernel_rfl⟩, ⟨_, _, _, Try.underlying190⟩, by kernel_rfl⟩
theorem tok191 : Wk.TOk Try.prog 191 ⟨.func, 1, 8, [Go.Value.nilFunc]⟩ := ⟨⟨Try.t191, _, by kernel_rfl, rfl, rfl, rfl, by kernel_rfl⟩, ⟨_, _, _, Try.underlying191⟩, by kernel_rfl⟩
theorem tok192 : Wk.TOk Try.prog 192 ⟨.func, 1, 8, [Go.Value.nilFunc]⟩ := ⟨⟨Try.t192, _, by kernel_rfl, rfl, rfl, rfl, by kernel_rfl⟩, ⟨_, _, _, Try.underlying192⟩, by kernel_rfl⟩
theorem tok193 : Wk.TOk Try.prog 193 ⟨.func, 1, 8, [Go.Value.nilFunc]⟩ := ⟨⟨Try.t193, _, by kernel_rfl, rfl, rfl, rfl, by kernel_rfl⟩, ⟨_, _, _, Try.underlying193⟩, by kernel_rfl⟩
theorem tok196 : Wk.TOk Try.prog 196 ⟨.arr 0 16, 0, 0, []⟩ := ⟨⟨Try.t196, _, by kernel_rfl, rfl, rfl, rfl, by kernel_rfl⟩, Try.underlying196, by kernel_rfl⟩
theorem tok199 : Wk.TOk Try.prog 199 ⟨.int Go.IntKind.u32, 1, 4, [(Go.Value.int Go.IntKind.u32 0)]⟩ := ⟨⟨Try.t199, _, by kernel_rfl, rfl, rfl, rfl, by kernel_rfl⟩, Try.underlying199, by kernel_rfl⟩
theorem tok200 : Wk.TOk Try.prog 200 ⟨.int Go.IntKind.u8, 1, 1, [(Go.Value.int Go.IntKind.u8 0)]⟩ := ⟨⟨Try.t200, _, by kernel_rfl, rfl, rfl, rfl, by kernel_rfl⟩, Try.underlying200, by kernel_rfl⟩
theorem tok201 : Wk.TOk Try.prog 201 ⟨.int Go.IntKind.u8, 1, 1, [(Go.Value.int Go.IntKind.u8 0)]⟩ := ⟨⟨Try.t201, _, by kernel_rfl, rfl, rfl, rfl, by kernel_rfl⟩, Try.underlying201, by kernel_rfl⟩
theorem tok202 : Wk.TOk Try.prog 202 ⟨.func, 1, 8, [Go.Value.nilFunc]⟩ := ⟨⟨Try.t202, _, by kernel_rfl, rfl, rfl, rfl, by kernel_rfl⟩, ⟨_, _, _, Try.underlying202⟩, by kernel_rfl⟩
theorem tok203 : Wk.TOk Try.prog 203 ⟨.int Go.IntKind.i32, 1, 4, [(Go.Value.int Go.IntKind.i32 0)]⟩ := ⟨⟨Try.t203, _, by kernel_rfl, rfl, rfl, rfl, by kernel_rfl⟩, Try.underlying203, by kernel_rfl⟩
theorem tok204 : Wk.TOk Try.prog 204 ⟨.int Go.IntKind.i32, 1, 4, [(Go.Value.int Go.IntKind.i32 0)]⟩ := ⟨⟨Try.t204, _, by kernel_rfl, rfl, rfl, rfl, by kernel_rfl⟩, Try.underlying204, by kernel_rfl⟩
theorem okT : Wk.Ok Try.prog TT := Wk.ok_of TTl ⟨tok1, tok2, tok3, tok4, tok5, tok6, tok7, tok8, tok9, tok10, tok11, tok12, tok15, tok16, tok17, tok20, tok21, tok22, tok23, tok24, tok25, tok26, tok27, tok28, tok29, tok30, tok31, tok33, tok35, tok36, tok37, tok38, tok39, tok40, tok41, tok42, tok43, tok45, tok46, tok47, tok48, tok49, tok50, tok51, tok52, tok53, tok55, tok56, tok57, tok58, tok59, tok60, tok61, tok62, tok63, tok64, tok66, tok67, tok68, tok69, tok70, tok71, tok72, tok73, tok75, tok76, tok77, tok78, tok79, tok80, tok81, tok82, tok83, tok84, tok85, tok86, tok87, tok88, tok89, tok91, tok92, tok93, tok95, tok96, tok97, tok98, tok99, tok100, tok101, tok102, tok103, tok104, tok106, tok107, tok108, tok109, tok110, tok111, tok112, tok113, tok114, tok115, tok116, tok117, tok118, tok119, tok120, tok121, tok122, tok123, tok124, tok125, tok127, tok128, tok130, tok131, tok132, tok134, tok135, tok136, tok137, tok138, tok139, tok140, tok141, tok142, tok143, tok144, tok145, tok146, tok147, tok149, tok151, tok152, tok153, tok154, tok155, tok156, tok157, tok158, tok160, tok161, tok162, tok163, tok164, tok165, tok166, tok168, tok169, tok170, tok171, tok172, tok173, tok174, tok177, tok179, tok180, tok181, tok182, tok184, tok185, tok186, tok188, tok189, tok190, tok191, tok192, tok193, tok196, tok199, tok200, tok201, tok202, tok203, tok204, trivial⟩ (by kernel_rfl) (by kernel_rfl)
theorem fok12 : Wk.FOk Try.prog 12 := ⟨Try.f12, Try.func12, by kernel_rfl, by kernel_rfl⟩
theorem fok19 : Wk.FOk Try.prog 19 := ⟨Try.f19, Try.func19, by kernel_rfl, by kernel_rfl⟩
theorem fok25 : Wk.FOk Try.prog 25 := ⟨Try.f25, Try.func25, by kernel_rfl, by kernel_rfl⟩
theorem fok26 : Wk.FOk Try.prog 26 := ⟨Try.f26, Try.func26, by kernel_rfl, by kernel_rfl⟩
theorem fok27 : Wk.FOk Try.prog 27 := ⟨Try.f27, Try.func27, by kernel_rfl, by kernel_rfl⟩
theorem fok28 : Wk.FOk Try.prog 28 := ⟨Try.f28, Try.func28, by kernel_rfl, by kernel_rfl⟩
theorem fok29 : Wk.FOk Try.prog 29 := ⟨Try.f29, Try.func29, by kernel_rfl, by kernel_rfl⟩
theorem fok30 : Wk.FOk Try.prog 30 := ⟨Try.f30, Try.func30, by kernel_rfl, by kernel_rfl⟩
theorem fok31 : Wk.FOk Try.prog 31 := ⟨Try.f31, Try.func31, by kernel_rfl, by kernel_rfl⟩
theorem fok32 : Wk.FOk Try.prog 32 := ⟨Try.f32, Try.func32, by kernel_rfl, by kernel_rfl⟩
theorem fok33 : Wk.FOk Try.prog 33 := ⟨Try.f33, Try.func33, by kernel_rfl, by kernel_rfl⟩
theorem fok46 : Wk.FOk Try.prog 46 := ⟨Try.f46, Try.func46, by kernel_rfl, by kernel_rfl⟩
theorem fok47 : Wk.FOk Try.prog 47 := ⟨Try.f47, Try.func47, by kernel_rfl, by kernel_rfl⟩
theorem fok49 : Wk.FOk Try.prog 49 := ⟨Try.f49, Try.func49, by kernel_rfl, by kernel_rfl⟩
theorem fok50 : Wk.FOk Try.prog 50 := ⟨Try.f50, Try.func50, by kernel_rfl, by kernel_rfl⟩
theorem fok57 : Wk.FOk Try.prog 57 := ⟨Try.f57, Try.func57, by kernel_rfl, by kernel_rfl⟩
theorem fok58 : Wk.FOk Try.prog 58 := ⟨Try.f58, Try.func58, by kernel_rfl, by kernel_rfl⟩
theorem fok60 : Wk.FOk Try.prog 60 := ⟨Try.f60, Try.func60, by kernel_rfl, by kernel_rfl⟩
theorem fok61 : Wk.FOk Try.prog 61 := ⟨Try.f61, Try.func61, by kernel_rfl, by kernel_rfl⟩
theorem fok64 : Wk.FOk Try.prog 64 := ⟨Try.f64, Try.func64, by kernel_rfl, by kernel_rfl⟩
theorem fok65 : Wk.FOk Try.prog 65 := ⟨Try.f65, Try.func65, by kernel_rfl, by kernel_rfl⟩
theorem fok66 : Wk.FOk Try.prog 66 := ⟨Try.f66, Try.func66, by kernel_rfl, by kernel_rfl⟩
theorem fok67 : Wk.FOk Try.prog 67 := ⟨Try.f67, Try.func67, by kernel_rfl, by kernel_rfl⟩
theorem fok68 : Wk.FOk Try.prog 68 := ⟨Try.f68, Try.func68, by kernel_rfl, by kernel_rfl⟩
theorem fok69 : Wk.FOk Try.prog 69 := ⟨Try.f69, Try.func69, by kernel_rfl, by kernel_rfl⟩
theorem fok70 : Wk.FOk Try.prog 70 := ⟨Try.f70, Try.func70, by kernel_rfl, by kernel_rfl⟩
theorem fok71 : Wk.FOk Try.prog 71 := ⟨Try.f71, Try.func71, by kernel_rfl, by kernel_rfl⟩
theorem fok72 : Wk.FOk Try.prog 72 := ⟨Try.f72, Try.func72, by kernel_rfl, by kernel_rfl⟩
theorem fok73 : Wk.FOk Try.prog 73 := ⟨Try.f73, Try.func73, by kernel_rfl, by kernel_rfl⟩
theorem fok84 : Wk.FOk Try.prog 84 := ⟨Try.f84, Try.func84, by kernel_rfl, by kernel_rfl⟩
theorem fok86 : Wk.FOk Try.prog 86 := ⟨Try.f86, Try.func86, by kernel_rfl, by kernel_rfl⟩
theorem fok87 : Wk.FOk Try.prog 87 := ⟨Try.f87, Try.func87, by kernel_rfl, by kernel_rfl⟩
theorem fok88 : Wk.FOk Try.prog 88 := ⟨Try.f88, Try.func88, by kernel_rfl, by kernel_rfl⟩
theorem fok89 : Wk.FOk Try.prog 89 := ⟨Try.f89, Try.func89, by kernel_rfl, by kernel_rfl⟩
theorem fok90 : Wk.FOk Try.prog 90 := ⟨Try.f90, Try.func90, by kernel_rfl, by kernel_rfl⟩
theorem fok97 : Wk.FOk Try.prog 97 := ⟨Try.f97, Try.func97, by kernel_rfl, by kernel_rfl⟩
theorem fok102 : Wk.FOk Try.prog 102 := ⟨Try.f102, Try.func102, by kernel_rfl, by kernel_rfl⟩
theorem fok107 : Wk.FOk Try.prog 107 := ⟨Try.f107, Try.func107, by kernel_rfl, by kernel_rfl⟩
theorem fok110 : Wk.FOk Try.prog 110 := ⟨Try.f110, Try.func110, by kernel_rfl, by kernel_rfl⟩
theorem fok111 : Wk.FOk Try.prog 111 := ⟨Try.f111, Try.func111, by kernel_rfl, by kernel_rfl⟩
theorem fok112 : Wk.FOk Try.prog 112 := ⟨Try.f112, Try.func112, by kernel_rfl, by kernel_rfl⟩
theorem fok119 : Wk.FOk Try.prog 119 := ⟨Try.f119, Try.func119, by kernel_rfl, by kernel_rfl⟩
theorem fok120 : Wk.FOk Try.prog 120 := ⟨Try.f120, Try.func120, by kernel_rfl, by kernel_rfl⟩
theorem fok121 : Wk.FOk Try.prog 121 := ⟨Try.f121, Try.func121, by kernel_rfl, by kernel_rfl⟩
theorem fok125 : Wk.FOk Try.prog 125 := ⟨Try.f125, Try.func125, by kernel_rfl, by kernel_rfl⟩
theorem fok126 : Wk.FOk Try.prog 126 := ⟨Try.f126, Try.func126, by kernel_rfl, by kernel_rfl⟩
theorem fok128 : Wk.FOk Try.prog 128 := ⟨Try.f128, Try.func128, by kernel_rfl, by kernel_rfl⟩
theorem fok129 : Wk.FOk Try.prog 129 := ⟨Try.f129, Try.func129, by kernel_rfl, by kernel_rfl⟩
theorem fok131 : Wk.FOk Try.prog 131 := ⟨Try.f131, Try.func131, by kernel_rfl, by kernel_rfl⟩
theorem fok132 : Wk.FOk Try.prog 132 := ⟨Try.f132, Try.func132, by kernel_rfl, by kernel_rfl⟩
theorem fok133 : Wk.FOk Try.prog 133 := ⟨Try.f133, Try.func133, by kernel_rfl, by kernel_rfl⟩
end Go.Proofs.Ytpcilobbohokcaa
