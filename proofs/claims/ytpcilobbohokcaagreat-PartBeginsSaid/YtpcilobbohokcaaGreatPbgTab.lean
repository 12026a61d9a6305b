/-
  The table of the types of this seat's program, for the walking layer: made by a program (mkseat.py).
-/
import Derived.Test.YtpcilobbohokcaaGreatRows
import Derived.Test.YtpcilobbohokcaaGreatPbgGs
import Derived.KernelRfl
namespace Go.Proofs.YtpcilobbohokcaaGreat
open Go
def TTl : List (Option Wk.TI) := [
  none,
  some ⟨.func, 1, 8, [Go.Value.nilFunc]⟩,
  some ⟨.int Go.IntKind.i64, 1, 8, [(Go.Value.int Go.IntKind.i64 0)]⟩,
  some ⟨.int Go.IntKind.i64, 1, 8, [(Go.Value.int Go.IntKind.i64 0)]⟩,
  some ⟨.bool, 1, 1, [(Go.Value.bool false)]⟩,
  some ⟨.int Go.IntKind.u8, 1, 1, [(Go.Value.int Go.IntKind.u8 0)]⟩,
  some ⟨.int Go.IntKind.u8, 1, 1, [(Go.Value.int Go.IntKind.u8 0)]⟩,
  some ⟨.strct [(0, 1, 2), (1, 1, 3), (2, 1, 4), (3, 1, 6)], 4, 24, [(Go.Value.int Go.IntKind.i64 0), (Go.Value.int Go.IntKind.i64 0), (Go.Value.bool false), (Go.Value.int Go.IntKind.u8 0)]⟩,
  some ⟨.strct [(0, 1, 2), (1, 1, 3), (2, 1, 4), (3, 1, 6)], 4, 24, [(Go.Value.int Go.IntKind.i64 0), (Go.Value.int Go.IntKind.i64 0), (Go.Value.bool false), (Go.Value.int Go.IntKind.u8 0)]⟩,
  some ⟨.string, 1, 16, [(Go.Value.string { data := #[] })]⟩,
  some ⟨.string, 1, 16, [(Go.Value.string { data := #[] })]⟩,
  some ⟨.string, 1, 16, [(Go.Value.string { data := #[] })]⟩,
  some ⟨.int Go.IntKind.u64, 1, 8, [(Go.Value.int Go.IntKind.u64 0)]⟩,
  none,
  none,
  some ⟨.ptr 212, 1, 8, [(Go.Value.pointer none)]⟩,
  some ⟨.ptr 215, 1, 8, [(Go.Value.pointer none)]⟩,
  some ⟨.ptr 223, 1, 8, [(Go.Value.pointer none)]⟩,
  none,
  none,
  some ⟨.iface, 1, 16, [Go.Value.nilIface]⟩,
  some ⟨.int Go.IntKind.i32, 1, 4, [(Go.Value.int Go.IntKind.i32 0)]⟩,
  some ⟨.func, 1, 8, [Go.Value.nilFunc]⟩,
  some ⟨.strct [(0, 1, 3), (1, 1, 3), (2, 1, 3)], 3, 24, [(Go.Value.int Go.IntKind.i64 0), (Go.Value.int Go.IntKind.i64 0), (Go.Value.int Go.IntKind.i64 0)]⟩,
  some ⟨.strct [(0, 1, 3), (1, 1, 3), (2, 1, 3)], 3, 24, [(Go.Value.int Go.IntKind.i64 0), (Go.Value.int Go.IntKind.i64 0), (Go.Value.int Go.IntKind.i64 0)]⟩,
  some ⟨.slice 126, 1, 24, [(Go.Value.slice none 0 0)]⟩,
  some ⟨.slice 9, 1, 24, [(Go.Value.slice none 0 0)]⟩,
  some ⟨.strct [(0, 3, 24), (3, 1, 3), (4, 1, 25), (5, 1, 26)], 6, 80, [(Go.Value.int Go.IntKind.i64 0), (Go.Value.int Go.IntKind.i64 0), (Go.Value.int Go.IntKind.i64 0), (Go.Value.int Go.IntKind.i64 0), (Go.Value.slice none 0 0), (Go.Value.slice none 0 0)]⟩,
  some ⟨.strct [(0, 3, 24), (3, 1, 3), (4, 1, 25), (5, 1, 26)], 6, 80, [(Go.Value.int Go.IntKind.i64 0), (Go.Value.int Go.IntKind.i64 0), (Go.Value.int Go.IntKind.i64 0), (Go.Value.int Go.IntKind.i64 0), (Go.Value.slice none 0 0), (Go.Value.slice none 0 0)]⟩,
  some ⟨.int Go.IntKind.i64, 1, 8, [(Go.Value.int Go.IntKind.i64 0)]⟩,
  none,
  some ⟨.func, 1, 8, [Go.Value.nilFunc]⟩,
  some ⟨.func, 1, 8, [Go.Value.nilFunc]⟩,
  some ⟨.func, 1, 8, [Go.Value.nilFunc]⟩,
  some ⟨.strct [(0, 1, 5), (1, 3, 24), (4, 1, 3), (5, 1, 25), (6, 1, 9), (7, 1, 4), (8, 1, 9)], 9, 104, [(Go.Value.int Go.IntKind.u8 0), (Go.Value.int Go.IntKind.i64 0), (Go.Value.int Go.IntKind.i64 0), (Go.Value.int Go.IntKind.i64 0), (Go.Value.int Go.IntKind.i64 0), (Go.Value.slice none 0 0), (Go.Value.string { data := #[] }), (Go.Value.bool false), (Go.Value.string { data := #[] })]⟩,
  some ⟨.strct [(0, 1, 5), (1, 3, 24), (4, 1, 3), (5, 1, 25), (6, 1, 9), (7, 1, 4), (8, 1, 9)], 9, 104, [(Go.Value.int Go.IntKind.u8 0), (Go.Value.int Go.IntKind.i64 0), (Go.Value.int Go.IntKind.i64 0), (Go.Value.int Go.IntKind.i64 0), (Go.Value.int Go.IntKind.i64 0), (Go.Value.slice none 0 0), (Go.Value.string { data := #[] }), (Go.Value.bool false), (Go.Value.string { data := #[] })]⟩,
  some ⟨.func, 1, 8, [Go.Value.nilFunc]⟩,
  some ⟨.func, 1, 8, [Go.Value.nilFunc]⟩,
  none,
  some ⟨.func, 1, 8, [Go.Value.nilFunc]⟩,
  some ⟨.func, 1, 8, [Go.Value.nilFunc]⟩,
  some ⟨.func, 1, 8, [Go.Value.nilFunc]⟩,
  some ⟨.func, 1, 8, [Go.Value.nilFunc]⟩,
  none,
  some ⟨.func, 1, 8, [Go.Value.nilFunc]⟩,
  some ⟨.func, 1, 8, [Go.Value.nilFunc]⟩,
  some ⟨.func, 1, 8, [Go.Value.nilFunc]⟩,
  some ⟨.func, 1, 8, [Go.Value.nilFunc]⟩,
  some ⟨.func, 1, 8, [Go.Value.nilFunc]⟩,
  some ⟨.func, 1, 8, [Go.Value.nilFunc]⟩,
  none,
  some ⟨.func, 1, 8, [Go.Value.nilFunc]⟩,
  some ⟨.slice 56, 1, 24, [(Go.Value.slice none 0 0)]⟩,
  some ⟨.func, 1, 8, [Go.Value.nilFunc]⟩,
  some ⟨.func, 1, 8, [Go.Value.nilFunc]⟩,
  some ⟨.strct [(0, 3, 24), (3, 1, 3), (4, 1, 25), (5, 1, 3)], 6, 64, [(Go.Value.int Go.IntKind.i64 0), (Go.Value.int Go.IntKind.i64 0), (Go.Value.int Go.IntKind.i64 0), (Go.Value.int Go.IntKind.i64 0), (Go.Value.slice none 0 0), (Go.Value.int Go.IntKind.i64 0)]⟩,
  some ⟨.strct [(0, 3, 24), (3, 1, 3), (4, 1, 25), (5, 1, 3)], 6, 64, [(Go.Value.int Go.IntKind.i64 0), (Go.Value.int Go.IntKind.i64 0), (Go.Value.int Go.IntKind.i64 0), (Go.Value.int Go.IntKind.i64 0), (Go.Value.slice none 0 0), (Go.Value.int Go.IntKind.i64 0)]⟩,
  some ⟨.func, 1, 8, [Go.Value.nilFunc]⟩,
  some ⟨.func, 1, 8, [Go.Value.nilFunc]⟩,
  some ⟨.func, 1, 8, [Go.Value.nilFunc]⟩,
  some ⟨.func, 1, 8, [Go.Value.nilFunc]⟩,
  some ⟨.func, 1, 8, [Go.Value.nilFunc]⟩,
  some ⟨.func, 1, 8, [Go.Value.nilFunc]⟩,
  some ⟨.func, 1, 8, [Go.Value.nilFunc]⟩,
  some ⟨.func, 1, 8, [Go.Value.nilFunc]⟩,
  none,
  some ⟨.func, 1, 8, [Go.Value.nilFunc]⟩,
  none,
  some ⟨.func, 1, 8, [Go.Value.nilFunc]⟩,
  some ⟨.func, 1, 8, [Go.Value.nilFunc]⟩,
  some ⟨.func, 1, 8, [Go.Value.nilFunc]⟩,
  some ⟨.strct [(0, 3, 24), (3, 1, 3), (4, 1, 25), (5, 1, 3), (6, 1, 9), (7, 1, 5), (8, 1, 9), (9, 1, 2)], 10, 112, [(Go.Value.int Go.IntKind.i64 0), (Go.Value.int Go.IntKind.i64 0), (Go.Value.int Go.IntKind.i64 0), (Go.Value.int Go.IntKind.i64 0), (Go.Value.slice none 0 0), (Go.Value.int Go.IntKind.i64 0), (Go.Value.string { data := #[] }), (Go.Value.int Go.IntKind.u8 0), (Go.Value.string { data := #[] }), (Go.Value.int Go.IntKind.i64 0)]⟩,
  some ⟨.strct [(0, 3, 24), (3, 1, 3), (4, 1, 25), (5, 1, 3), (6, 1, 9), (7, 1, 5), (8, 1, 9), (9, 1, 2)], 10, 112, [(Go.Value.int Go.IntKind.i64 0), (Go.Value.int Go.IntKind.i64 0), (Go.Value.int Go.IntKind.i64 0), (Go.Value.int Go.IntKind.i64 0), (Go.Value.slice none 0 0), (Go.Value.int Go.IntKind.i64 0), (Go.Value.string { data := #[] }), (Go.Value.int Go.IntKind.u8 0), (Go.Value.string { data := #[] }), (Go.Value.int Go.IntKind.i64 0)]⟩,
  some ⟨.func, 1, 8, [Go.Value.nilFunc]⟩,
  some ⟨.func, 1, 8, [Go.Value.nilFunc]⟩,
  none,
  some ⟨.func, 1, 8, [Go.Value.nilFunc]⟩,
  some ⟨.func, 1, 8, [Go.Value.nilFunc]⟩,
  some ⟨.func, 1, 8, [Go.Value.nilFunc]⟩,
  none,
  some ⟨.func, 1, 8, [Go.Value.nilFunc]⟩,
  some ⟨.func, 1, 8, [Go.Value.nilFunc]⟩,
  some ⟨.func, 1, 8, [Go.Value.nilFunc]⟩,
  some ⟨.func, 1, 8, [Go.Value.nilFunc]⟩,
  some ⟨.func, 1, 8, [Go.Value.nilFunc]⟩,
  some ⟨.func, 1, 8, [Go.Value.nilFunc]⟩,
  none,
  some ⟨.func, 1, 8, [Go.Value.nilFunc]⟩,
  some ⟨.func, 1, 8, [Go.Value.nilFunc]⟩,
  some ⟨.func, 1, 8, [Go.Value.nilFunc]⟩,
  some ⟨.func, 1, 8, [Go.Value.nilFunc]⟩,
  some ⟨.func, 1, 8, [Go.Value.nilFunc]⟩,
  some ⟨.func, 1, 8, [Go.Value.nilFunc]⟩,
  some ⟨.slice 3, 1, 24, [(Go.Value.slice none 0 0)]⟩,
  none,
  some ⟨.func, 1, 8, [Go.Value.nilFunc]⟩,
  some ⟨.func, 1, 8, [Go.Value.nilFunc]⟩,
  none,
  some ⟨.func, 1, 8, [Go.Value.nilFunc]⟩,
  none,
  some ⟨.func, 1, 8, [Go.Value.nilFunc]⟩,
  some ⟨.func, 1, 8, [Go.Value.nilFunc]⟩,
  some ⟨.func, 1, 8, [Go.Value.nilFunc]⟩,
  some ⟨.func, 1, 8, [Go.Value.nilFunc]⟩,
  some ⟨.strct [(0, 1, 9), (1, 1, 3), (2, 1, 3), (3, 1, 36), (4, 1, 102), (5, 1, 103)], 6, 56, [(Go.Value.string { data := #[] }), (Go.Value.int Go.IntKind.i64 0), (Go.Value.int Go.IntKind.i64 0), Go.Value.nilFunc, Go.Value.nilFunc, Go.Value.nilFunc]⟩,
  some ⟨.strct [(0, 1, 9), (1, 1, 3), (2, 1, 3), (3, 1, 36), (4, 1, 102), (5, 1, 103)], 6, 56, [(Go.Value.string { data := #[] }), (Go.Value.int Go.IntKind.i64 0), (Go.Value.int Go.IntKind.i64 0), Go.Value.nilFunc, Go.Value.nilFunc, Go.Value.nilFunc]⟩,
  some ⟨.map 5 105, 1, 8, [(Go.Value.map none)]⟩,
  some ⟨.func, 1, 8, [Go.Value.nilFunc]⟩,
  some ⟨.func, 1, 8, [Go.Value.nilFunc]⟩,
  some ⟨.func, 1, 8, [Go.Value.nilFunc]⟩,
  some ⟨.func, 1, 8, [Go.Value.nilFunc]⟩,
  some ⟨.func, 1, 8, [Go.Value.nilFunc]⟩,
  some ⟨.func, 1, 8, [Go.Value.nilFunc]⟩,
  none,
  some ⟨.func, 1, 8, [Go.Value.nilFunc]⟩,
  some ⟨.func, 1, 8, [Go.Value.nilFunc]⟩,
  some ⟨.func, 1, 8, [Go.Value.nilFunc]⟩,
  some ⟨.func, 1, 8, [Go.Value.nilFunc]⟩,
  none,
  some ⟨.func, 1, 8, [Go.Value.nilFunc]⟩,
  some ⟨.func, 1, 8, [Go.Value.nilFunc]⟩,
  some ⟨.func, 1, 8, [Go.Value.nilFunc]⟩,
  some ⟨.func, 1, 8, [Go.Value.nilFunc]⟩,
  some ⟨.func, 1, 8, [Go.Value.nilFunc]⟩,
  some ⟨.func, 1, 8, [Go.Value.nilFunc]⟩,
  some ⟨.strct [(0, 1, 3), (1, 1, 9)], 2, 24, [(Go.Value.int Go.IntKind.i64 0), (Go.Value.string { data := #[] })]⟩,
  some ⟨.strct [(0, 1, 3), (1, 1, 9)], 2, 24, [(Go.Value.int Go.IntKind.i64 0), (Go.Value.string { data := #[] })]⟩,
  some ⟨.func, 1, 8, [Go.Value.nilFunc]⟩,
  some ⟨.func, 1, 8, [Go.Value.nilFunc]⟩,
  some ⟨.func, 1, 8, [Go.Value.nilFunc]⟩,
  some ⟨.func, 1, 8, [Go.Value.nilFunc]⟩,
  some ⟨.func, 1, 8, [Go.Value.nilFunc]⟩,
  some ⟨.func, 1, 8, [Go.Value.nilFunc]⟩,
  some ⟨.func, 1, 8, [Go.Value.nilFunc]⟩,
  some ⟨.strct [(0, 1, 4), (1, 1, 4), (2, 1, 4), (3, 1, 4), (4, 1, 4)], 5, 5, [(Go.Value.bool false), (Go.Value.bool false), (Go.Value.bool false), (Go.Value.bool false), (Go.Value.bool false)]⟩,
  some ⟨.strct [(0, 1, 4), (1, 1, 4), (2, 1, 4), (3, 1, 4), (4, 1, 4)], 5, 5, [(Go.Value.bool false), (Go.Value.bool false), (Go.Value.bool false), (Go.Value.bool false), (Go.Value.bool false)]⟩,
  some ⟨.arr 6 135, 30, 30, [(Go.Value.bool false), (Go.Value.bool false), (Go.Value.bool false), (Go.Value.bool false), (Go.Value.bool false), (Go.Value.bool false), (Go.Value.bool false), (Go.Value.bool false), (Go.Value.bool false), (Go.Value.bool false), (Go.Value.bool false), (Go.Value.bool false), (Go.Value.bool false), (Go.Value.bool false), (Go.Value.bool false), (Go.Value.bool false), (Go.Value.bool false), (Go.Value.bool false), (Go.Value.bool false), (Go.Value.bool false), (Go.Value.bool false), (Go.Value.bool false), (Go.Value.bool false), (Go.Value.bool false), (Go.Value.bool false), (Go.Value.bool false), (Go.Value.bool false), (Go.Value.bool false), (Go.Value.bool false), (Go.Value.bool false)]⟩,
  some ⟨.func, 1, 8, [Go.Value.nilFunc]⟩,
  some ⟨.func, 1, 8, [Go.Value.nilFunc]⟩,
  some ⟨.func, 1, 8, [Go.Value.nilFunc]⟩,
  some ⟨.strct [(0, 6, 56)], 6, 64, [(Go.Value.int Go.IntKind.i64 0), (Go.Value.int Go.IntKind.i64 0), (Go.Value.int Go.IntKind.i64 0), (Go.Value.int Go.IntKind.i64 0), (Go.Value.slice none 0 0), (Go.Value.int Go.IntKind.i64 0)]⟩,
  some ⟨.strct [(0, 6, 56)], 6, 64, [(Go.Value.int Go.IntKind.i64 0), (Go.Value.int Go.IntKind.i64 0), (Go.Value.int Go.IntKind.i64 0), (Go.Value.int Go.IntKind.i64 0), (Go.Value.slice none 0 0), (Go.Value.int Go.IntKind.i64 0)]⟩,
  some ⟨.func, 1, 8, [Go.Value.nilFunc]⟩,
  some ⟨.func, 1, 8, [Go.Value.nilFunc]⟩,
  some ⟨.func, 1, 8, [Go.Value.nilFunc]⟩,
  some ⟨.strct [(0, 1, 29)], 1, 8, [(Go.Value.int Go.IntKind.i64 0)]⟩,
  some ⟨.strct [(0, 1, 29)], 1, 8, [(Go.Value.int Go.IntKind.i64 0)]⟩,
  none,
  some ⟨.func, 1, 8, [Go.Value.nilFunc]⟩,
  some ⟨.func, 1, 8, [Go.Value.nilFunc]⟩,
  some ⟨.func, 1, 8, [Go.Value.nilFunc]⟩,
  some ⟨.map 3 3, 1, 8, [(Go.Value.map none)]⟩,
  some ⟨.func, 1, 8, [Go.Value.nilFunc]⟩,
  some ⟨.int Go.IntKind.u64, 1, 8, [(Go.Value.int Go.IntKind.u64 0)]⟩,
  none,
  some ⟨.func, 1, 8, [Go.Value.nilFunc]⟩,
  some ⟨.func, 1, 8, [Go.Value.nilFunc]⟩,
  some ⟨.func, 1, 8, [Go.Value.nilFunc]⟩,
  some ⟨.func, 1, 8, [Go.Value.nilFunc]⟩,
  some ⟨.ptr 35, 1, 8, [(Go.Value.pointer none)]⟩,
  some ⟨.func, 1, 8, [Go.Value.nilFunc]⟩,
  some ⟨.func, 1, 8, [Go.Value.nilFunc]⟩,
  some ⟨.func, 1, 8, [Go.Value.nilFunc]⟩,
  some ⟨.func, 1, 8, [Go.Value.nilFunc]⟩,
  some ⟨.func, 1, 8, [Go.Value.nilFunc]⟩,
  some ⟨.func, 1, 8, [Go.Value.nilFunc]⟩,
  some ⟨.func, 1, 8, [Go.Value.nilFunc]⟩,
  some ⟨.strct [], 0, 0, []⟩,
  some ⟨.strct [], 0, 0, []⟩,
  none,
  some ⟨.func, 1, 8, [Go.Value.nilFunc]⟩,
  none,
  some ⟨.func, 1, 8, [Go.Value.nilFunc]⟩,
  none,
  some ⟨.func, 1, 8, [Go.Value.nilFunc]⟩,
  some ⟨.func, 1, 8, [Go.Value.nilFunc]⟩,
  none,
  some ⟨.func, 1, 8, [Go.Value.nilFunc]⟩,
  some ⟨.func, 1, 8, [Go.Value.nilFunc]⟩,
  some ⟨.func, 1, 8, [Go.Value.nilFunc]⟩,
  none,
  some ⟨.func, 1, 8, [Go.Value.nilFunc]⟩,
  some ⟨.ptr 185, 1, 8, [(Go.Value.pointer none)]⟩,
  some ⟨.slice 5, 1, 24, [(Go.Value.slice none 0 0)]⟩,
  some ⟨.strct [(0, 1, 182), (1, 1, 183)], 2, 32, [(Go.Value.pointer none), (Go.Value.slice none 0 0)]⟩,
  some ⟨.strct [(0, 1, 182), (1, 1, 183)], 2, 32, [(Go.Value.pointer none), (Go.Value.slice none 0 0)]⟩,
  some ⟨.iface, 1, 16, [Go.Value.nilIface]⟩,
  some ⟨.iface, 1, 16, [Go.Value.nilIface]⟩,
  none,
  some ⟨.func, 1, 8, [Go.Value.nilFunc]⟩,
  some ⟨.func, 1, 8, [Go.Value.nilFunc]⟩,
  some ⟨.func, 1, 8, [Go.Value.nilFunc]⟩,
  some ⟨.arr 9 5, 9, 9, [(Go.Value.int Go.IntKind.u8 0), (Go.Value.int Go.IntKind.u8 0), (Go.Value.int Go.IntKind.u8 0), (Go.Value.int Go.IntKind.u8 0), (Go.Value.int Go.IntKind.u8 0), (Go.Value.int Go.IntKind.u8 0), (Go.Value.int Go.IntKind.u8 0), (Go.Value.int Go.IntKind.u8 0), (Go.Value.int Go.IntKind.u8 0)]⟩,
  some ⟨.int Go.IntKind.u64, 1, 8, [(Go.Value.int Go.IntKind.u64 0)]⟩,
  some ⟨.func, 1, 8, [Go.Value.nilFunc]⟩,
  some ⟨.func, 1, 8, [Go.Value.nilFunc]⟩,
  some ⟨.func, 1, 8, [Go.Value.nilFunc]⟩,
  some ⟨.func, 1, 8, [Go.Value.nilFunc]⟩,
  some ⟨.func, 1, 8, [Go.Value.nilFunc]⟩,
  some ⟨.strct [(0, 1, 29)], 1, 8, [(Go.Value.int Go.IntKind.i64 0)]⟩,
  some ⟨.strct [(0, 1, 29)], 1, 8, [(Go.Value.int Go.IntKind.i64 0)]⟩,
  some ⟨.ptr 5, 1, 8, [(Go.Value.pointer none)]⟩,
  none,
  some ⟨.func, 1, 8, [Go.Value.nilFunc]⟩,
  some ⟨.func, 1, 8, [Go.Value.nilFunc]⟩,
  none,
  some ⟨.func, 1, 8, [Go.Value.nilFunc]⟩,
  some ⟨.func, 1, 8, [Go.Value.nilFunc]⟩,
  some ⟨.func, 1, 8, [Go.Value.nilFunc]⟩,
  some ⟨.func, 1, 8, [Go.Value.nilFunc]⟩,
  some ⟨.func, 1, 8, [Go.Value.nilFunc]⟩,
  none,
  none,
  some ⟨.arr 0 16, 0, 0, []⟩,
  none,
  none,
  some ⟨.int Go.IntKind.u32, 1, 4, [(Go.Value.int Go.IntKind.u32 0)]⟩,
  some ⟨.int Go.IntKind.u8, 1, 1, [(Go.Value.int Go.IntKind.u8 0)]⟩,
  some ⟨.int Go.IntKind.u8, 1, 1, [(Go.Value.int Go.IntKind.u8 0)]⟩,
  some ⟨.func, 1, 8, [Go.Value.nilFunc]⟩,
  some ⟨.int Go.IntKind.i32, 1, 4, [(Go.Value.int Go.IntKind.i32 0)]⟩,
  some ⟨.int Go.IntKind.i32, 1, 4, [(Go.Value.int Go.IntKind.i32 0)]⟩]
def TT : Wk.Tab := Wk.nth TTl
theorem TT_eq (t : Nat) : TT t = Wk.nth TTl t := rfl
theorem tok1 : Wk.TOk Tryz.prog 1 ⟨.func, 1, 8, [Go.Value.nilFunc]⟩ := ⟨⟨Tryz.t1, _, by kernel_rfl, rfl, rfl, rfl, by kernel_rfl⟩, ⟨_, _, _, Tryz.underlying1⟩, by kernel_rfl⟩
theorem tok2 : Wk.TOk Tryz.prog 2 ⟨.int Go.IntKind.i64, 1, 8, [(Go.Value.int Go.IntKind.i64 0)]⟩ := ⟨⟨Tryz.t2, _, by kernel_rfl, rfl, rfl, rfl, by kernel_rfl⟩, Tryz.underlying2, by kernel_rfl⟩
theorem tok3 : Wk.TOk Tryz.prog 3 ⟨.int Go.IntKind.i64, 1, 8, [(Go.Value.int Go.IntKind.i64 0)]⟩ := ⟨⟨Tryz.t3, _, by kernel_rfl, rfl, rfl, rfl, by kernel_rfl⟩, Tryz.underlying3, by kernel_rfl⟩
theorem tok4 : Wk.TOk Tryz.prog 4 ⟨.bool, 1, 1, [(Go.Value.bool false)]⟩ := ⟨⟨Tryz.t4, _, by kernel_rfl, rfl, rfl, rfl, by kernel_rfl⟩, Tryz.underlying4, by kernel_rfl⟩
theorem tok5 : Wk.TOk Tryz.prog 5 ⟨.int Go.IntKind.u8, 1, 1, [(Go.Value.int Go.IntKind.u8 0)]⟩ := ⟨⟨Tryz.t5, _, by kernel_rfl, rfl, rfl, rfl, by kernel_rfl⟩, Tryz.underlying5, by kernel_rfl⟩
theorem tok6 : Wk.TOk Tryz.prog 6 ⟨.int Go.IntKind.u8, 1, 1, [(Go.Value.int Go.IntKind.u8 0)]⟩ := ⟨⟨Tryz.t6, _, by kernel_rfl, rfl, rfl, rfl, by kernel_rfl⟩, Tryz.underlying6, by kernel_rfl⟩
theorem tok7 : Wk.TOk Tryz.prog 7 ⟨.strct [(0, 1, 2), (1, 1, 3), (2, 1, 4), (3, 1, 6)], 4, 24, [(Go.Value.int Go.IntKind.i64 0), (Go.Value.int Go.IntKind.i64 0), (Go.Value.bool false), (Go.Value.int Go.IntKind.u8 0)]⟩ := ⟨⟨Tryz.t7, _, by kernel_rfl, rfl, rfl, rfl, by kernel_rfl⟩, ⟨_, Tryz.underlying7, by kernel_rfl, Tryz.stoodInHeld7, by kernel_rfl⟩, by kernel_rfl⟩
theorem tok8 : Wk.TOk Tryz.prog 8 ⟨.strct [(0, 1, 2), (1, 1, 3), (2, 1, 4), (3, 1, 6)], 4, 24, [(Go.Value.int Go.IntKind.i64 0), (Go.Value.int Go.IntKind.i64 0), (Go.Value.bool false), (Go.Value.int Go.IntKind.u8 0)]⟩ := ⟨⟨Tryz.t8, _, by kernel_rfl, rfl, rfl, rfl, by kernel_rfl⟩, ⟨_, Tryz.underlying8, by kernel_rfl, Tryz.stoodInHeld8, by kernel_rfl⟩, by kernel_rfl⟩
theorem tok9 : Wk.TOk Tryz.prog 9 ⟨.string, 1, 16, [(Go.Value.string { data := #[] })]⟩ := ⟨⟨Tryz.t9, _, by kernel_rfl, rfl, rfl, rfl, by kernel_rfl⟩, Tryz.underlying9, by kernel_rfl⟩
theorem tok10 : Wk.TOk Tryz.prog 10 ⟨.string, 1, 16, [(Go.Value.string { data := #[] })]⟩ := ⟨⟨Tryz.t10, _, by kernel_rfl, rfl, rfl, rfl, by kernel_rfl⟩, Tryz.underlying10, by kernel_rfl⟩
theorem tok11 : Wk.TOk Tryz.prog 11 ⟨.string, 1, 16, [(Go.Value.string { data := #[] })]⟩ := ⟨⟨Tryz.t11, _, by kernel_rfl, rfl, rfl, rfl, by kernel_rfl⟩, Tryz.underlying11, by kernel_rfl⟩
theorem tok12 : Wk.TOk Tryz.prog 12 ⟨.int Go.IntKind.u64, 1, 8, [(Go.Value.int Go.IntKind.u64 0)]⟩ := ⟨⟨Tryz.t12, _, by kernel_rfl, rfl, rfl, rfl, by kernel_rfl⟩, Tryz.underlying12, by kernel_rfl⟩
theorem tok15 : Wk.TOk Tryz.prog 15 ⟨.ptr 212, 1, 8, [(Go.Value.pointer none)]⟩ := ⟨⟨Tryz.t15, _, by kernel_rfl, rfl, rfl, rfl, by kernel_rfl⟩, Tryz.underlying15, by kernel_rfl⟩
theorem tok16 : Wk.TOk Tryz.prog 16 ⟨.ptr 215, 1, 8, [(Go.Value.pointer none)]⟩ := ⟨⟨Tryz.t16, _, by kernel_rfl, rfl, rfl, rfl, by kernel_rfl⟩, Tryz.underlying16, by kernel_rfl⟩
theorem tok17 : Wk.TOk Tryz.prog 17 ⟨.ptr 223, 1, 8, [(Go.Value.pointer none)]⟩ := ⟨⟨Tryz.t17, _, by kernel_rfl, rfl, rfl, rfl, by kernel_rfl⟩, Tryz.underlying17, by kernel_rfl⟩
theorem tok20 : Wk.TOk Tryz.prog 20 ⟨.iface, 1, 16, [Go.Value.nilIface]⟩ := ⟨⟨Tryz.t20, _, by kernel_rfl, rfl, rfl, rfl, by kernel_rfl⟩, ⟨_, Tryz.underlying20⟩, by kernel_rfl⟩
theorem tok21 : Wk.TOk Tryz.prog 21 ⟨.int Go.IntKind.i32, 1, 4, [(Go.Value.int Go.IntKind.i32 0)]⟩ := ⟨⟨Tryz.t21, _, by kernel_rfl, rfl, rfl, rfl, by kernel_rfl⟩, Tryz.underlying21, by kernel_rfl⟩
theorem tok22 : Wk.TOk Tryz.prog 22 ⟨.func, 1, 8, [Go.Value.nilFunc]⟩ := ⟨⟨Tryz.t22, _, by kernel_rfl, rfl, rfl, rfl, by kernel_rfl⟩, ⟨_, _, _, Tryz.underlying22⟩, by kernel_rfl⟩
theorem tok23 : Wk.TOk Tryz.prog 23 ⟨.strct [(0, 1, 3), (1, 1, 3), (2, 1, 3)], 3, 24, [(Go.Value.int Go.IntKind.i64 0), (Go.Value.int Go.IntKind.i64 0), (Go.Value.int Go.IntKind.i64 0)]⟩ := ⟨⟨Tryz.t23, _, by kernel_rfl, rfl, rfl, rfl, by kernel_rfl⟩, ⟨_, Tryz.underlying23, by kernel_rfl, Tryz.stoodInHeld23, by kernel_rfl⟩, by kernel_rfl⟩
theorem tok24 : Wk.TOk Tryz.prog 24 ⟨.strct [(0, 1, 3), (1, 1, 3), (2, 1, 3)], 3, 24, [(Go.Value.int Go.IntKind.i64 0), (Go.Value.int Go.IntKind.i64 0), (Go.Value.int Go.IntKind.i64 0)]⟩ := ⟨⟨Tryz.t24, _, by kernel_rfl, rfl, rfl, rfl, by kernel_rfl⟩, ⟨_, Tryz.underlying24, by kernel_rfl, Tryz.stoodInHeld24, by kernel_rfl⟩, by kernel_rfl⟩
theorem tok25 : Wk.TOk Tryz.prog 25 ⟨.slice 126, 1, 24, [(Go.Value.slice none 0 0)]⟩ := ⟨⟨Tryz.t25, _, by kernel_rfl, rfl, rfl, rfl, by kernel_rfl⟩, Tryz.underlying25, by kernel_rfl⟩
theorem tok26 : Wk.TOk Tryz.prog 26 ⟨.slice 9, 1, 24, [(Go.Value.slice none 0 0)]⟩ := ⟨⟨Tryz.t26, _, by kernel_rfl, rfl, rfl, rfl, by kernel_rfl⟩, Tryz.underlying26, by kernel_rfl⟩
theorem tok27 : Wk.TOk Tryz.prog 27 ⟨.strct [(0, 3, 24), (3, 1, 3), (4, 1, 25), (5, 1, 26)], 6, 80, [(Go.Value.int Go.IntKind.i64 0), (Go.Value.int Go.IntKind.i64 0), (Go.Value.int Go.IntKind.i64 0), (Go.Value.int Go.IntKind.i64 0), (Go.Value.slice none 0 0), (Go.Value.slice none 0 0)]⟩ := ⟨⟨Tryz.t27, _, by kernel_rfl, rfl, rfl, rfl, by kernel_rfl⟩, ⟨_, Tryz.underlying27, by kernel_rfl, Tryz.stoodInHeld27, by kernel_rfl⟩, by kernel_rfl⟩
theorem tok28 : Wk.TOk Tryz.prog 28 ⟨.strct [(0, 3, 24), (3, 1, 3), (4, 1, 25), (5, 1, 26)], 6, 80, [(Go.Value.int Go.IntKind.i64 0), (Go.Value.int Go.IntKind.i64 0), (Go.Value.int Go.IntKind.i64 0), (Go.Value.int Go.IntKind.i64 0), (Go.Value.slice none 0 0), (Go.Value.slice none 0 0)]⟩ := ⟨⟨Tryz.t28, _, by kernel_rfl, rfl, rfl, rfl, by kernel_rfl⟩, ⟨_, Tryz.underlying28, by kernel_rfl, Tryz.stoodInHeld28, by kernel_rfl⟩, by kernel_rfl⟩
theorem tok29 : Wk.TOk Tryz.prog 29 ⟨.int Go.IntKind.i64, 1, 8, [(Go.Value.int Go.IntKind.i64 0)]⟩ := ⟨⟨Tryz.t29, _, by kernel_rfl, rfl, rfl, rfl, by kernel_rfl⟩, Tryz.underlying29, by kernel_rfl⟩
theorem tok31 : Wk.TOk Tryz.prog 31 ⟨.func, 1, 8, [Go.Value.nilFunc]⟩ := ⟨⟨Tryz.t31, _, by kernel_rfl, rfl, rfl, rfl, by kernel_rfl⟩, ⟨_, _, _, Tryz.underlying31⟩, by kernel_rfl⟩
theorem tok32 : Wk.TOk Tryz.prog 32 ⟨.func, 1, 8, [Go.Value.nilFunc]⟩ := ⟨⟨Tryz.t32, _, by kernel_rfl, rfl, rfl, rfl, by kernel_rfl⟩, ⟨_, _, _, Tryz.underlying32⟩, by kernel_rfl⟩
theorem tok33 : Wk.TOk Tryz.prog 33 ⟨.func, 1, 8, [Go.Value.nilFunc]⟩ := ⟨⟨Tryz.t33, _, by kernel_rfl, rfl, rfl, rfl, by kernel_rfl⟩, ⟨_, _, _, Tryz.underlying33⟩, by kernel_rfl⟩
theorem tok34 : Wk.TOk Tryz.prog 34 ⟨.strct [(0, 1, 5), (1, 3, 24), (4, 1, 3), (5, 1, 25), (6, 1, 9), (7, 1, 4), (8, 1, 9)], 9, 104, [(Go.Value.int Go.IntKind.u8 0), (Go.Value.int Go.IntKind.i64 0), (Go.Value.int Go.IntKind.i64 0), (Go.Value.int Go.IntKind.i64 0), (Go.Value.int Go.IntKind.i64 0), (Go.Value.slice none 0 0), (Go.Value.string { data := #[] }), (Go.Value.bool false), (Go.Value.string { data := #[] })]⟩ := ⟨⟨Tryz.t34, _, by kernel_rfl, rfl, rfl, rfl, by kernel_rfl⟩, ⟨_, Tryz.underlying34, by kernel_rfl, Tryz.stoodInHeld34, by kernel_rfl⟩, by kernel_rfl⟩
theorem tok35 : Wk.TOk Tryz.prog 35 ⟨.strct [(0, 1, 5), (1, 3, 24), (4, 1, 3), (5, 1, 25), (6, 1, 9), (7, 1, 4), (8, 1, 9)], 9, 104, [(Go.Value.int Go.IntKind.u8 0), (Go.Value.int Go.IntKind.i64 0), (Go.Value.int Go.IntKind.i64 0), (Go.Value.int Go.IntKind.i64 0), (Go.Value.int Go.IntKind.i64 0), (Go.Value.slice none 0 0), (Go.Value.string { data := #[] }), (Go.Value.bool false), (Go.Value.string { data := #[] })]⟩ := ⟨⟨Tryz.t35, _, by kernel_rfl, rfl, rfl, rfl, by kernel_rfl⟩, ⟨_, Tryz.underlying35, by kernel_rfl, Tryz.stoodInHeld35, by kernel_rfl⟩, by kernel_rfl⟩
theorem tok36 : Wk.TOk Tryz.prog 36 ⟨.func, 1, 8, [Go.Value.nilFunc]⟩ := ⟨⟨Tryz.t36, _, by kernel_rfl, rfl, rfl, rfl, by kernel_rfl⟩, ⟨_, _, _, Tryz.underlying36⟩, by kernel_rfl⟩
theorem tok37 : Wk.TOk Tryz.prog 37 ⟨.func, 1, 8, [Go.Value.nilFunc]⟩ := ⟨⟨Tryz.t37, _, by kernel_rfl, rfl, rfl, rfl, by kernel_rfl⟩, ⟨_, _, _, Tryz.underlying37⟩, by kernel_rfl⟩
theorem tok39 : Wk.TOk Tryz.prog 39 ⟨.func, 1, 8, [Go.Value.nilFunc]⟩ := ⟨⟨Tryz.t39, _, by kernel_rfl, rfl, rfl, rfl, by kernel_rfl⟩, ⟨_, _, _, Tryz.underlying39⟩, by kernel_rfl⟩
theorem tok40 : Wk.TOk Tryz.prog 40 ⟨.func, 1, 8, [Go.Value.nilFunc]⟩ := ⟨⟨Tryz.t40, _, by kernel_rfl, rfl, rfl, rfl, by kernel_rfl⟩, ⟨_, _, _, Tryz.underlying40⟩, by kernel_rfl⟩
theorem tok41 : Wk.TOk Tryz.prog 41 ⟨.func, 1, 8, [Go.Value.nilFunc]⟩ := ⟨⟨Tryz.t41, _, by kernel_rfl, rfl, rfl, rfl, by kernel_rfl⟩, ⟨_, _, _, Tryz.underlying41⟩, by kernel_rfl⟩
theorem tok42 : Wk.TOk Tryz.prog 42 ⟨.func, 1, 8, [Go.Value.nilFunc]⟩ := ⟨⟨Tryz.t42, _, by kernel_rfl, rfl, rfl, rfl, by kernel_rfl⟩, ⟨_, _, _, Tryz.underlying42⟩, by kernel_rfl⟩
theorem tok44 : Wk.TOk Tryz.prog 44 ⟨.func, 1, 8, [Go.Value.nilFunc]⟩ := ⟨⟨Tryz.t44, _, by kernel_rfl, rfl, rfl, rfl, by kernel_rfl⟩, ⟨_, _, _, Tryz.underlying44⟩, by kernel_rfl⟩
theorem tok45 : Wk.TOk Tryz.prog 45 ⟨.func, 1, 8, [Go.Value.nilFunc]⟩ := ⟨⟨Tryz.t45, _, by kernel_rfl, rfl, rfl, rfl, by kernel_rfl⟩, ⟨_, _, _, Tryz.underlying45⟩, by kernel_rfl⟩
theorem tok46 : Wk.TOk Tryz.prog 46 ⟨.func, 1, 8, [Go.Value.nilFunc]⟩ := ⟨⟨Tryz.t46, _, by kernel_rfl, rfl, rfl, rfl, by kernel_rfl⟩, ⟨_, _, _, Tryz.underlying46⟩, by kernel_rfl⟩
theorem tok47 : Wk.TOk Tryz.prog 47 ⟨.func, 1, 8, [Go.Value.nilFunc]⟩ := ⟨⟨Tryz.t47, _, by kernel_rfl, rfl, rfl, rfl, by kernel_rfl⟩, ⟨_, _, _, Tryz.underlying47⟩, by kernel_rfl⟩
theorem tok48 : Wk.TOk Tryz.prog 48 ⟨.func, 1, 8, [Go.Value.nilFunc]⟩ := ⟨⟨Tryz.t48, _, by kernel_rfl, rfl, rfl, rfl, by kernel_rfl⟩, ⟨_, _, _, Tryz.underlying48⟩, by kernel_rfl⟩
theorem tok49 : Wk.TOk Tryz.prog 49 ⟨.func, 1, 8, [Go.Value.nilFunc]⟩ := ⟨⟨Tryz.t49, _, by kernel_rfl, rfl, rfl, rfl, by kernel_rfl⟩, ⟨_, _, _, Tryz.underlying49⟩, by kernel_rfl⟩
theorem tok51 : Wk.TOk Tryz.prog 51 ⟨.func, 1, 8, [Go.Value.nilFunc]⟩ := ⟨⟨Tryz.t51, _, by kernel_rfl, rfl, rfl, rfl, by kernel_rfl⟩, ⟨_, _, _, Tryz.underlying51⟩, by kernel_rfl⟩
theorem tok52 : Wk.TOk Tryz.prog 52 ⟨.slice 56, 1, 24, [(Go.Value.slice none 0 0)]⟩ := ⟨⟨Tryz.t52, _, by kernel_rfl, rfl, rfl, rfl, by kernel_rfl⟩, Tryz.underlying52, by kernel_rfl⟩
theorem tok53 : Wk.TOk Tryz.prog 53 ⟨.func, 1, 8, [Go.Value.nilFunc]⟩ := ⟨⟨Tryz.t53, _, by kernel_rfl, rfl, rfl, rfl, by kernel_rfl⟩, ⟨_, _, _, Tryz.underlying53⟩, by kernel_rfl⟩
theorem tok54 : Wk.TOk Tryz.prog 54 ⟨.func, 1, 8, [Go.Value.nilFunc]⟩ := ⟨⟨Tryz.t54, _, by kernel_rfl, rfl, rfl, rfl, by kernel_rfl⟩, ⟨_, _, _, Tryz.underlying54⟩, by kernel_rfl⟩
theorem tok55 : Wk.TOk Tryz.prog 55 ⟨.strct [(0, 3, 24), (3, 1, 3), (4, 1, 25), (5, 1, 3)], 6, 64, [(Go.Value.int Go.IntKind.i64 0), (Go.Value.int Go.IntKind.i64 0), (Go.Value.int Go.IntKind.i64 0), (Go.Value.int Go.IntKind.i64 0), (Go.Value.slice none 0 0), (Go.Value.int Go.IntKind.i64 0)]⟩ := ⟨⟨Tryz.t55, _, by kernel_rfl, rfl, rfl, rfl, by kernel_rfl⟩, ⟨_, Tryz.underlying55, by kernel_rfl, Tryz.stoodInHeld55, by kernel_rfl⟩, by kernel_rfl⟩
theorem tok56 : Wk.TOk Tryz.prog 56 ⟨.strct [(0, 3, 24), (3, 1, 3), (4, 1, 25), (5, 1, 3)], 6, 64, [(Go.Value.int Go.IntKind.i64 0), (Go.Value.int Go.IntKind.i64 0), (Go.Value.int Go.IntKind.i64 0), (Go.Value.int Go.IntKind.i64 0), (Go.Value.slice none 0 0), (Go.Value.int Go.IntKind.i64 0)]⟩ := ⟨⟨Tryz.t56, _, by kernel_rfl, rfl, rfl, rfl, by kernel_rfl⟩, ⟨_, Tryz.underlying56, by kernel_rfl, Tryz.stoodInHeld56, by kernel_rfl⟩, by kernel_rfl⟩
theorem tok57 : Wk.TOk Tryz.prog 57 ⟨.func, 1, 8, [Go.Value.nilFunc]⟩ := ⟨⟨Tryz.t57, _, by kernel_rfl, rfl, rfl, rfl, by kernel_rfl⟩, ⟨_, _, _, Tryz.underlying57⟩, by kernel_rfl⟩
theorem tok58 : Wk.TOk Tryz.prog 58 ⟨.func, 1, 8, [Go.Value.nilFunc]⟩ := ⟨⟨Tryz.t58, _, by kernel_rfl, rfl, rfl, rfl, by kernel_rfl⟩, ⟨_, _, _, Tryz.underlying58⟩, by kernel_rfl⟩
theorem tok59 : Wk.TOk Tryz.prog 59 ⟨.func, 1, 8, [Go.Value.nilFunc]⟩ := ⟨⟨Tryz.t59, _, by kernel_rfl, rfl, rfl, rfl, by kernel_rfl⟩, ⟨_, _, _, Tryz.underlying59⟩, by kernel_rfl⟩
theorem tok60 : Wk.TOk Tryz.prog 60 ⟨.func, 1, 8, [Go.Value.nilFunc]⟩ := ⟨⟨Tryz.t60, _, by kernel_rfl, rfl, rfl, rfl, by kernel_rfl⟩, ⟨_, _, _, Tryz.underlying60⟩, by kernel_rfl⟩
theorem tok61 : Wk.TOk Tryz.prog 61 ⟨.func, 1, 8, [Go.Value.nilFunc]⟩ := ⟨⟨Tryz.t61, _, by kernel_rfl, rfl, rfl, rfl, by kernel_rfl⟩, ⟨_, _, _, Tryz.underlying61⟩, by kernel_rfl⟩
theorem tok62 : Wk.TOk Tryz.prog 62 ⟨.func, 1, 8, [Go.Value.nilFunc]⟩ := ⟨⟨Tryz.t62, _, by kernel_rfl, rfl, rfl, rfl, by kernel_rfl⟩, ⟨_, _, _, Tryz.underlying62⟩, by kernel_rfl⟩
theorem tok63 : Wk.TOk Tryz.prog 63 ⟨.func, 1, 8, [Go.Value.nilFunc]⟩ := ⟨⟨Tryz.t63, _, by kernel_rfl, rfl, rfl, rfl, by kernel_rfl⟩, ⟨_, _, _, Tryz.underlying63⟩, by kernel_rfl⟩
theorem tok64 : Wk.TOk Tryz.prog 64 ⟨.func, 1, 8, [Go.Value.nilFunc]⟩ := ⟨⟨Tryz.t64, _, by kernel_rfl, rfl, rfl, rfl, by kernel_rfl⟩, ⟨_, _, _, Tryz.underlying64⟩, by kernel_rfl⟩
theorem tok66 : Wk.TOk Tryz.prog 66 ⟨.func, 1, 8, [Go.Value.nilFunc]⟩ := ⟨⟨Tryz.t66, _, by kernel_rfl, rfl, rfl, rfl, by kernel_rfl⟩, ⟨_, _, _, Tryz.underlying66⟩, by kernel_rfl⟩
theorem tok68 : Wk.TOk Tryz.prog 68 ⟨.func, 1, 8, [Go.Value.nilFunc]⟩ := ⟨⟨Tryz.t68, _, by kernel_rfl, rfl, rfl, rfl, by kernel_rfl⟩, ⟨_, _, _, Tryz.underlying68⟩, by kernel_rfl⟩
theorem tok69 : Wk.TOk Tryz.prog 69 ⟨.func, 1, 8, [Go.Value.nilFunc]⟩ := ⟨⟨Tryz.t69, _, by kernel_rfl, rfl, rfl, rfl, by kernel_rfl⟩, ⟨_, _, _, Tryz.underlying69⟩, by kernel_rfl⟩
theorem tok70 : Wk.TOk Tryz.prog 70 ⟨.func, 1, 8, [Go.Value.nilFunc]⟩ := ⟨⟨Tryz.t70, _, by kernel_rfl, rfl, rfl, rfl, by kernel_rfl⟩, ⟨_, _, _, Tryz.underlying70⟩, by kernel_rfl⟩
theorem tok71 : Wk.TOk Tryz.prog 71 ⟨.strct [(0, 3, 24), (3, 1, 3), (4, 1, 25), (5, 1, 3), (6, 1, 9), (7, 1, 5), (8, 1, 9), (9, 1, 2)], 10, 112, [(Go.Value.int Go.IntKind.i64 0), (Go.Value.int Go.IntKind.i64 0), (Go.Value.int Go.IntKind.i64 0), (Go.Value.int Go.IntKind.i64 0), (Go.Value.slice none 0 0), (Go.Value.int Go.IntKind.i64 0), (Go.Value.string { data := #[] }), (Go.Value.int Go.IntKind.u8 0), (Go.Value.string { data := #[] }), (Go.Value.int Go.IntKind.i64 0)]⟩ := ⟨⟨Tryz.t71, _, by kernel_rfl, rfl, rfl, rfl, by kernel_rfl⟩, ⟨_, Tryz.underlying71, by kernel_rfl, Tryz.stoodInHeld71, by kernel_rfl⟩, by kernel_rfl⟩
theorem tok72 : Wk.TOk Tryz.prog 72 ⟨.strct [(0, 3, 24), (3, 1, 3), (4, 1, 25), (5, 1, 3), (6, 1, 9), (7, 1, 5), (8, 1, 9), (9, 1, 2)], 10, 112, [(Go.Value.int Go.IntKind.i64 0), (Go.Value.int Go.IntKind.i64 0), (Go.Value.int Go.IntKind.i64 0), (Go.Value.int Go.IntKind.i64 0), (Go.Value.slice none 0 0), (Go.Value.int Go.IntKind.i64 0), (Go.Value.string { data := #[] }), (Go.Value.int Go.IntKind.u8 0), (Go.Value.string { data := #[] }), (Go.Value.int Go.IntKind.i64 0)]⟩ := ⟨⟨Tryz.t72, _, by kernel_rfl, rfl, rfl, rfl, by kernel_rfl⟩, ⟨_, Tryz.underlying72, by kernel_rfl, Tryz.stoodInHeld72, by kernel_rfl⟩, by kernel_rfl⟩
theorem tok73 : Wk.TOk Tryz.prog 73 ⟨.func, 1, 8, [Go.Value.nilFunc]⟩ := ⟨⟨Tryz.t73, _, by kernel_rfl, rfl, rfl, rfl, by kernel_rfl⟩, ⟨_, _, _, Tryz.underlying73⟩, by kernel_rfl⟩
theorem tok74 : Wk.TOk Tryz.prog 74 ⟨.func, 1, 8, [Go.Value.nilFunc]⟩ := ⟨⟨Tryz.t74, _, by kernel_rfl, rfl, rfl, rfl, by kernel_rfl⟩, ⟨_, _, _, Tryz.underlying74⟩, by kernel_rfl⟩
theorem tok76 : Wk.TOk Tryz.prog 76 ⟨.func, 1, 8, [Go.Value.nilFunc]⟩ := ⟨⟨Tryz.t76, _, by kernel_rfl, rfl, rfl, rfl, by kernel_rfl⟩, ⟨_, _, _, Tryz.underlying76⟩, by kernel_rfl⟩
theorem tok77 : Wk.TOk Tryz.prog 77 ⟨.func, 1, 8, [Go.Value.nilFunc]⟩ := ⟨⟨Tryz.t77, _, by kernel_rfl, rfl, rfl, rfl, by kernel_rfl⟩, ⟨_, _, _, Tryz.underlying77⟩, by kernel_rfl⟩
theorem tok78 : Wk.TOk Tryz.prog 78 ⟨.func, 1, 8, [Go.Value.nilFunc]⟩ := ⟨⟨Tryz.t78, _, by kernel_rfl, rfl, rfl, rfl, by kernel_rfl⟩, ⟨_, _, _, Tryz.underlying78⟩, by kernel_rfl⟩
theorem tok80 : Wk.TOk Tryz.prog 80 ⟨.func, 1, 8, [Go.Value.nilFunc]⟩ := ⟨⟨Tryz.t80, _, by kernel_rfl, rfl, rfl, rfl, by kernel_rfl⟩, ⟨_, _, _, Tryz.underlying80⟩, by kernel_rfl⟩
theorem tok81 : Wk.TOk Tryz.prog 81 ⟨.func, 1, 8, [Go.Value.nilFunc]⟩ := ⟨⟨Tryz.t81, _, by kernel_rfl, rfl, rfl, rfl, by kernel_rfl⟩, ⟨_, _, _, Tryz.underlying81⟩, by kernel_rfl⟩
theorem tok82 : Wk.TOk Tryz.prog 82 ⟨.func, 1, 8, [Go.Value.nilFunc]⟩ := ⟨⟨Tryz.t82, _, by kernel_rfl, rfl, rfl, rfl, by kernel_rfl⟩, ⟨_, _, _, Tryz.underlying82⟩, by kernel_rfl⟩
theorem tok83 : Wk.TOk Tryz.prog 83 ⟨.func, 1, 8, [Go.Value.nilFunc]⟩ := ⟨⟨Tryz.t83, _, by kernel_rfl, rfl, rfl, rfl, by kernel_rfl⟩, ⟨_, _, _, Tryz.underlying83⟩, by kernel_rfl⟩
theorem tok84 : Wk.TOk Tryz.prog 84 ⟨.func, 1, 8, [Go.Value.nilFunc]⟩ := ⟨⟨Tryz.t84, _, by kernel_rfl, rfl, rfl, rfl, by kernel_rfl⟩, ⟨_, _, _, Tryz.underlying84⟩, by kernel_rfl⟩
theorem tok85 : Wk.TOk Tryz.prog 85 ⟨.func, 1, 8, [Go.Value.nilFunc]⟩ := ⟨⟨Tryz.t85, _, by kernel_rfl, rfl, rfl, rfl, by kernel_rfl⟩, ⟨_, _, _, Tryz.underlying85⟩, by kernel_rfl⟩
theorem tok87 : Wk.TOk Tryz.prog 87 ⟨.func, 1, 8, [Go.Value.nilFunc]⟩ := ⟨⟨Tryz.t87, _, by kernel_rfl, rfl, rfl, rfl, by kernel_rfl⟩, ⟨_, _, _, Tryz.underlying87⟩, by kernel_rfl⟩
theorem tok88 : Wk.TOk Tryz.prog 88 ⟨.func, 1, 8, [Go.Value.nilFunc]⟩ := ⟨⟨Tryz.t88, _, by kernel_rfl, rfl, rfl, rfl, by kernel_rfl⟩, ⟨_, _, _, Tryz.underlying88⟩, by kernel_rfl⟩
theorem tok89 : Wk.TOk Tryz.prog 89 ⟨.func, 1, 8, [Go.Value.nilFunc]⟩ := ⟨⟨Tryz.t89, _, by kernel_rfl, rfl, rfl, rfl, by kernel_rfl⟩, ⟨_, _, _, Tryz.underlying89⟩, by kernel_rfl⟩
theorem tok90 : Wk.TOk Tryz.prog 90 ⟨.func, 1, 8, [Go.Value.nilFunc]⟩ := ⟨⟨Tryz.t90, _, by kernel_rfl, rfl, rfl, rfl, by kernel_rfl⟩, ⟨_, _, _, Tryz.underlying90⟩, by kernel_rfl⟩
theorem tok91 : Wk.TOk Tryz.prog 91 ⟨.func, 1, 8, [Go.Value.nilFunc]⟩ := ⟨⟨Tryz.t91, _, by kernel_rfl, rfl, rfl, rfl, by kernel_rfl⟩, ⟨_, _, _, Tryz.underlying91⟩, by kernel_rfl⟩
theorem tok92 : Wk.TOk Tryz.prog 92 ⟨.func, 1, 8, [Go.Value.nilFunc]⟩ := ⟨⟨Tryz.t92, _, by kernel_rfl, rfl, rfl, rfl, by kernel_rfl⟩, ⟨_, _, _, Tryz.underlying92⟩, by kernel_rfl⟩
theorem tok93 : Wk.TOk Tryz.prog 93 ⟨.slice 3, 1, 24, [(Go.Value.slice none 0 0)]⟩ := ⟨⟨Tryz.t93, _, by kernel_rfl, rfl, rfl, rfl, by kernel_rfl⟩, Tryz.underlying93, by kernel_rfl⟩
theorem tok95 : Wk.TOk Tryz.prog 95 ⟨.func, 1, 8, [Go.Value.nilFunc]⟩ := ⟨⟨Tryz.t95, _, by kernel_rfl, rfl, rfl, rfl, by kernel_rfl⟩, ⟨_, _, _, Tryz.underlying95⟩, by kernel_rfl⟩
theorem tok96 : Wk.TOk Tryz.prog 96 ⟨.func, 1, 8, [Go.Value.nilFunc]⟩ := ⟨⟨Tryz.t96, _, by kernel_rfl, rfl, rfl, rfl, by kernel_rfl⟩, ⟨_, _, _, Tryz.underlying96⟩, by kernel_rfl⟩
theorem tok98 : Wk.TOk Tryz.prog 98 ⟨.func, 1, 8, [Go.Value.nilFunc]⟩ := ⟨⟨Tryz.t98, _, by kernel_rfl, rfl, rfl, rfl, by kernel_rfl⟩, ⟨_, _, _, Tryz.underlying98⟩, by kernel_rfl⟩
theorem tok100 : Wk.TOk Tryz.prog 100 ⟨.func, 1, 8, [Go.Value.nilFunc]⟩ := ⟨⟨Tryz.t100, _, by kernel_rfl, rfl, rfl, rfl, by kernel_rfl⟩, ⟨_, _, _, Tryz.underlying100⟩, by kernel_rfl⟩
theorem tok101 : Wk.TOk Tryz.prog 101 ⟨.func, 1, 8, [Go.Value.nilFunc]⟩ := ⟨⟨Tryz.t101, _, by kernel_rfl, rfl, rfl, rfl, by kernel_rfl⟩, ⟨_, _, _, Tryz.underlying101⟩, by kernel_rfl⟩
theorem tok102 : Wk.TOk Tryz.prog 102 ⟨.func, 1, 8, [Go.Value.nilFunc]⟩ := ⟨⟨Tryz.t102, _, by kernel_rfl, rfl, rfl, rfl, by kernel_rfl⟩, ⟨_, _, _, Tryz.underlying102⟩, by kernel_rfl⟩
theorem tok103 : Wk.TOk Tryz.prog 103 ⟨.func, 1, 8, [Go.Value.nilFunc]⟩ := ⟨⟨Tryz.t103, _, by kernel_rfl, rfl, rfl, rfl, by kernel_rfl⟩, ⟨_, _, _, Tryz.underlying103⟩, by kernel_rfl⟩
theorem tok104 : Wk.TOk Tryz.prog 104 ⟨.strct [(0, 1, 9), (1, 1, 3), (2, 1, 3), (3, 1, 36), (4, 1, 102), (5, 1, 103)], 6, 56, [(Go.Value.string { data := #[] }), (Go.Value.int Go.IntKind.i64 0), (Go.Value.int Go.IntKind.i64 0), Go.Value.nilFunc, Go.Value.nilFunc, Go.Value.nilFunc]⟩ := ⟨⟨Tryz.t104, _, by kernel_rfl, rfl, rfl, rfl, by kernel_rfl⟩, ⟨_, Tryz.underlying104, by kernel_rfl, Tryz.stoodInHeld104, by kernel_rfl⟩, by kernel_rfl⟩
theorem tok105 : Wk.TOk Tryz.prog 105 ⟨.strct [(0, 1, 9), (1, 1, 3), (2, 1, 3), (3, 1, 36), (4, 1, 102), (5, 1, 103)], 6, 56, [(Go.Value.string { data := #[] }), (Go.Value.int Go.IntKind.i64 0), (Go.Value.int Go.IntKind.i64 0), Go.Value.nilFunc, Go.Value.nilFunc, Go.Value.nilFunc]⟩ := ⟨⟨Tryz.t105, _, by kernel_rfl, rfl, rfl, rfl, by kernel_rfl⟩, ⟨_, Tryz.underlying105, by kernel_rfl, Tryz.stoodInHeld105, by kernel_rfl⟩, by kernel_rfl⟩
theorem tok106 : Wk.TOk Tryz.prog 106 ⟨.map 5 105, 1, 8, [(Go.Value.map none)]⟩ := ⟨⟨Tryz.t106, _, by kernel_rfl, rfl, rfl, rfl, by kernel_rfl⟩, Tryz.underlying106, by kernel_rfl⟩
theorem tok107 : Wk.TOk Tryz.prog 107 ⟨.func, 1, 8, [Go.Value.nilFunc]⟩ := ⟨⟨Tryz.t107, _, by kernel_rfl, rfl, rfl, rfl, by kernel_rfl⟩, ⟨_, _, _, Tryz.underlying107⟩, by kernel_rfl⟩
theorem tok108 : Wk.TOk Tryz.prog 108 ⟨.func, 1, 8, [Go.Value.nilFunc]⟩ := ⟨⟨Tryz.t108, _, by kernel_rfl, rfl, rfl, rfl, by kernel_rfl⟩, ⟨_, _, _, Tryz.underlying108⟩, by kernel_rfl⟩
theorem tok109 : Wk.TOk Tryz.prog 109 ⟨.func, 1, 8, [Go.Value.nilFunc]⟩ := ⟨⟨Tryz.t109, _, by kernel_rfl, rfl, rfl, rfl, by kernel_rfl⟩, ⟨_, _, _, Tryz.underlying109⟩, by kernel_rfl⟩
theorem tok110 : Wk.TOk Tryz.prog 110 ⟨.func, 1, 8, [Go.Value.nilFunc]⟩ := ⟨⟨Tryz.t110, _, by kernel_rfl, rfl, rfl, rfl, by kernel_rfl⟩, ⟨_, _, _, Tryz.underlying110⟩, by kernel_rfl⟩
theorem tok111 : Wk.TOk Tryz.prog 111 ⟨.func, 1, 8, [Go.Value.nilFunc]⟩ := ⟨⟨Tryz.t111, _, by kernel_rfl, rfl, rfl, rfl, by kernel_rfl⟩, ⟨_, _, _, Tryz.underlying111⟩, by kernel_rfl⟩
theorem tok112 : Wk.TOk Tryz.prog 112 ⟨.func, 1, 8, [Go.Value.nilFunc]⟩ := ⟨⟨Tryz.t112, _, by kernel_rfl, rfl, rfl, rfl, by kernel_rfl⟩, ⟨_, _, _, Tryz.underlying112⟩, by kernel_rfl⟩
theorem tok114 : Wk.TOk Tryz.prog 114 ⟨.func, 1, 8, [Go.Value.nilFunc]⟩ := ⟨⟨Tryz.t114, _, by kernel_rfl, rfl, rfl, rfl, by kernel_rfl⟩, ⟨_, _, _, Tryz.underlying114⟩, by kernel_rfl⟩
theorem tok115 : Wk.TOk Tryz.prog 115 ⟨.func, 1, 8, [Go.Value.nilFunc]⟩ := ⟨⟨Tryz.t115, _, by kernel_rfl, rfl, rfl, rfl, by kernel_rfl⟩, ⟨_, _, _, Tryz.underlying115⟩, by kernel_rfl⟩
theorem tok116 : Wk.TOk Tryz.prog 116 ⟨.func, 1, 8, [Go.Value.nilFunc]⟩ := ⟨⟨Tryz.t116, _, by kernel_rfl, rfl, rfl, rfl, by kernel_rfl⟩, ⟨_, _, _, Tryz.underlying116⟩, by kernel_rfl⟩
theorem tok117 : Wk.TOk Tryz.prog 117 ⟨.func, 1, 8, [Go.Value.nilFunc]⟩ := ⟨⟨Tryz.t117, _, by kernel_rfl, rfl, rfl, rfl, by kernel_rfl⟩, ⟨_, _, _, Tryz.underlying117⟩, by kernel_rfl⟩
theorem tok119 : Wk.TOk Tryz.prog 119 ⟨.func, 1, 8, [Go.Value.nilFunc]⟩ := ⟨⟨Tryz.t119, _, by kernel_rfl, rfl, rfl, rfl, by kernel_rfl⟩, ⟨_, _, _, Tryz.underlying119⟩, by kernel_rfl⟩
theorem tok120 : Wk.TOk Tryz.prog 120 ⟨.func, 1, 8, [Go.Value.nilFunc]⟩ := ⟨⟨Tryz.t120, _, by kernel_rfl, rfl, rfl, rfl, by kernel_rfl⟩, ⟨_, _, _, Tryz.underlying120⟩, by kernel_rfl⟩
theorem tok121 : Wk.TOk Tryz.prog 121 ⟨.func, 1, 8, [Go.Value.nilFunc]⟩ := ⟨⟨Tryz.t121, _, by kernel_rfl, rfl, rfl, rfl, by kernel_rfl⟩, ⟨_, _, _, Tryz.underlying121⟩, by kernel_rfl⟩
theorem tok122 : Wk.TOk Tryz.prog 122 ⟨.func, 1, 8, [Go.Value.nilFunc]⟩ := ⟨⟨Tryz.t122, _, by kernel_rfl, rfl, rfl, rfl, by kernel_rfl⟩, ⟨_, _, _, Tryz.underlying122⟩, by kernel_rfl⟩
theorem tok123 : Wk.TOk Tryz.prog 123 ⟨.func, 1, 8, [Go.Value.nilFunc]⟩ := ⟨⟨Tryz.t123, _, by kernel_rfl, rfl, rfl, rfl, by kernel_rfl⟩, ⟨_, _, _, Tryz.underlying123⟩, by kernel_rfl⟩
theorem tok124 : Wk.TOk Tryz.prog 124 ⟨.func, 1, 8, [Go.Value.nilFunc]⟩ := ⟨⟨Tryz.t124, _, by kernel_rfl, rfl, rfl, rfl, by kernel_rfl⟩, ⟨_, _, _, Tryz.underlying124⟩, by kernel_rfl⟩
theorem tok125 : Wk.TOk Tryz.prog 125 ⟨.strct [(0, 1, 3), (1, 1, 9)], 2, 24, [(Go.Value.int Go.IntKind.i64 0), (Go.Value.string { data := #[] })]⟩ := ⟨⟨Tryz.t125, _, by kernel_rfl, rfl, rfl, rfl, by kernel_rfl⟩, ⟨_, Tryz.underlying125, by kernel_rfl, Tryz.stoodInHeld125, by kernel_rfl⟩, by kernel_rfl⟩
theorem tok126 : Wk.TOk Tryz.prog 126 ⟨.strct [(0, 1, 3), (1, 1, 9)], 2, 24, [(Go.Value.int Go.IntKind.i64 0), (Go.Value.string { data := #[] })]⟩ := ⟨⟨Tryz.t126, _, by kernel_rfl, rfl, rfl, rfl, by kernel_rfl⟩, ⟨_, Tryz.underlying126, by kernel_rfl, Tryz.stoodInHeld126, by kernel_rfl⟩, by kernel_rfl⟩
theorem tok127 : Wk.TOk Tryz.prog 127 ⟨.func, 1, 8, [Go.Value.nilFunc]⟩ := ⟨⟨Tryz.t127, _, by kernel_rfl, rfl, rfl, rfl, by kernel_rfl⟩, ⟨_, _, _, Tryz.underlying127⟩, by kernel_rfl⟩
theorem tok128 : Wk.TOk Tryz.prog 128 ⟨.func, 1, 8, [Go.Value.nilFunc]⟩ := ⟨⟨Tryz.t128, _, by kernel_rfl, rfl, rfl, rfl, by kernel_rfl⟩, ⟨_, _, _, Tryz.underlying128⟩, by kernel_rfl⟩
theorem tok129 : Wk.TOk Tryz.prog 129 ⟨.func, 1, 8, [Go.Value.nilFunc]⟩ := ⟨⟨Tryz.t129, _, by kernel_rfl, rfl, rfl, rfl, by kernel_rfl⟩, ⟨_, _, _, Tryz.underlying129⟩, by kernel_rfl⟩
theorem tok130 : Wk.TOk Tryz.prog 130 ⟨.func, 1, 8, [Go.Value.nilFunc]⟩ := ⟨⟨Tryz.t130, _, by kernel_rfl, rfl, rfl, rfl, by kernel_rfl⟩, ⟨_, _, _, Tryz.underlying130⟩, by kernel_rfl⟩
theorem tok131 : Wk.TOk Tryz.prog 131 ⟨.func, 1, 8, [Go.Value.nilFunc]⟩ := ⟨⟨Tryz.t131, _, by kernel_rfl, rfl, rfl, rfl, by kernel_rfl⟩, ⟨_, _, _, Tryz.underlying131⟩, by kernel_rfl⟩
theorem tok132 : Wk.TOk Tryz.prog 132 ⟨.func, 1, 8, [Go.Value.nilFunc]⟩ := ⟨⟨Tryz.t132, _, by kernel_rfl, rfl, rfl, rfl, by kernel_rfl⟩, ⟨_, _, _, Tryz.underlying132⟩, by kernel_rfl⟩
theorem tok133 : Wk.TOk Tryz.prog 133 ⟨.func, 1, 8, [Go.Value.nilFunc]⟩ := ⟨⟨Tryz.t133, _, by kernel_rfl, rfl, rfl, rfl, by kernel_rfl⟩, ⟨_, _, _, Tryz.underlying133⟩, by kernel_rfl⟩
theorem tok134 : Wk.TOk Tryz.prog 134 ⟨.strct [(0, 1, 4), (1, 1, 4), (2, 1, 4), (3, 1, 4), (4, 1, 4)], 5, 5, [(Go.Value.bool false), (Go.Value.bool false), (Go.Value.bool false), (Go.Value.bool false), (Go.Value.bool false)]⟩ := ⟨⟨Tryz.t134, _, by kernel_rfl, rfl, rfl, rfl, by kernel_rfl⟩, ⟨_, Tryz.underlying134, by kernel_rfl, Tryz.stoodInHeld134, by kernel_rfl⟩, by kernel_rfl⟩
theorem tok135 : Wk.TOk Tryz.prog 135 ⟨.strct [(0, 1, 4), (1, 1, 4), (2, 1, 4), (3, 1, 4), (4, 1, 4)], 5, 5, [(Go.Value.bool false), (Go.Value.bool false), (Go.Value.bool false), (Go.Value.bool false), (Go.Value.bool false)]⟩ := ⟨⟨Tryz.t135, _, by kernel_rfl, rfl, rfl, rfl, by kernel_rfl⟩, ⟨_, Tryz.underlying135, by kernel_rfl, Tryz.stoodInHeld135, by kernel_rfl⟩, by kernel_rfl⟩
theorem tok136 : Wk.TOk Tryz.prog 136 ⟨.arr 6 135, 30, 30, [(Go.Value.bool false), (Go.Value.bool false), (Go.Value.bool false), (Go.Value.bool false), (Go.Value.bool false), (Go.Value.bool false), (Go.Value.bool false), (Go.Value.bool false), (Go.Value.bool false), (Go.Value.bool false), (Go.Value.bool false), (Go.Value.bool false), (Go.Value.bool false), (Go.Value.bool false), (Go.Value.bool false), (Go.Value.bool false), (Go.Value.bool false), (Go.Value.bool false), (Go.Value.bool false), (Go.Value.bool false), (Go.Value.bool false), (Go.Value.bool false), (Go.Value.bool false), (Go.Value.bool false), (Go.Value.bool false), (Go.Value.bool false), (Go.Value.bool false), (Go.Value.bool false), (Go.Value.bool false), (Go.Value.bool false)]⟩ := ⟨⟨Tryz.t136, _, by kernel_rfl, rfl, rfl, rfl, by kernel_rfl⟩, Tryz.underlying136, by kernel_rfl⟩
theorem tok137 : Wk.TOk Tryz.prog 137 ⟨.func, 1, 8, [Go.Value.nilFunc]⟩ := ⟨⟨Tryz.t137, _, by kernel_rfl, rfl, rfl, rfl, by kernel_rfl⟩, ⟨_, _, _, Tryz.underlying137⟩, by kernel_rfl⟩
theorem tok138 : Wk.TOk Tryz.prog 138 ⟨.func, 1, 8, [Go.Value.nilFunc]⟩ := ⟨⟨Tryz.t138, _, by kernel_rfl, rfl, rfl, rfl, by kernel_rfl⟩, ⟨_, _, _, Tryz.underlying138⟩, by kernel_rfl⟩
theorem tok139 : Wk.TOk Tryz.prog 139 ⟨.func, 1, 8, [Go.Value.nilFunc]⟩ := ⟨⟨Tryz.t139, _, by kernel_rfl, rfl, rfl, rfl, by kernel_rfl⟩, ⟨_, _, _, Tryz.underlying139⟩, by kernel_rfl⟩
theorem tok140 : Wk.TOk Tryz.prog 140 ⟨.strct [(0, 6, 56)], 6, 64, [(Go.Value.int Go.IntKind.i64 0), (Go.Value.int Go.IntKind.i64 0), (Go.Value.int Go.IntKind.i64 0), (Go.Value.int Go.IntKind.i64 0), (Go.Value.slice none 0 0), (Go.Value.int Go.IntKind.i64 0)]⟩ := ⟨⟨Tryz.t140, _, by kernel_rfl, rfl, rfl, rfl, by kernel_rfl⟩, ⟨_, Tryz.underlying140, by kernel_rfl, Tryz.stoodInHeld140, by kernel_rfl⟩, by kernel_rfl⟩
theorem tok141 : Wk.TOk Tryz.prog 141 ⟨.strct [(0, 6, 56)], 6, 64, [(Go.Value.int Go.IntKind.i64 0), (Go.Value.int Go.IntKind.i64 0), (Go.Value.int Go.IntKind.i64 0), (Go.Value.int Go.IntKind.i64 0), (Go.Value.slice none 0 0), (Go.Value.int Go.IntKind.i64 0)]⟩ := ⟨⟨Tryz.t141, _, by kernel_rfl, rfl, rfl, rfl, by kernel_rfl⟩, ⟨_, Tryz.underlying141, by kernel_rfl, Tryz.stoodInHeld141, by kernel_rfl⟩, by kernel_rfl⟩
theorem tok142 : Wk.TOk Tryz.prog 142 ⟨.func, 1, 8, [Go.Value.nilFunc]⟩ := ⟨⟨Tryz.t142, _, by kernel_rfl, rfl, rfl, rfl, by kernel_rfl⟩, ⟨_, _, _, Tryz.underlying142⟩, by kernel_rfl⟩
theorem tok143 : Wk.TOk Tryz.prog 143 ⟨.func, 1, 8, [Go.Value.nilFunc]⟩ := ⟨⟨Tryz.t143, _, by kernel_rfl, rfl, rfl, rfl, by kernel_rfl⟩, ⟨_, _, _, Tryz.underlying143⟩, by kernel_rfl⟩
theorem tok144 : Wk.TOk Tryz.prog 144 ⟨.func, 1, 8, [Go.Value.nilFunc]⟩ := ⟨⟨Tryz.t144, _, by kernel_rfl, rfl, rfl, rfl, by kernel_rfl⟩, ⟨_, _, _, Tryz.underlying144⟩, by kernel_rfl⟩
theorem tok145 : Wk.TOk Tryz.prog 145 ⟨.strct [(0, 1, 29)], 1, 8, [(Go.Value.int Go.IntKind.i64 0)]⟩ := ⟨⟨Tryz.t145, _, by kernel_rfl, rfl, rfl, rfl, by kernel_rfl⟩, ⟨_, Tryz.underlying145, by kernel_rfl, Tryz.stoodInHeld145, by kernel_rfl⟩, by kernel_rfl⟩
theorem tok146 : Wk.TOk Tryz.prog 146 ⟨.strct [(0, 1, 29)], 1, 8, [(Go.Value.int Go.IntKind.i64 0)]⟩ := ⟨⟨Tryz.t146, _, by kernel_rfl, rfl, rfl, rfl, by kernel_rfl⟩, ⟨_, Tryz.underlying146, by kernel_rfl, Tryz.stoodInHeld146, by kernel_rfl⟩, by kernel_rfl⟩
theorem tok148 : Wk.TOk Tryz.prog 148 ⟨.func, 1, 8, [Go.Value.nilFunc]⟩ := ⟨⟨Tryz.t148, _, by kernel_rfl, rfl, rfl, rfl, by kernel_rfl⟩, ⟨_, _, _, Tryz.underlying148⟩, by kernel_rfl⟩
theorem tok149 : Wk.TOk Tryz.prog 149 ⟨.func, 1, 8, [Go.Value.nilFunc]⟩ := ⟨⟨Tryz.t149, _, by kernel_rfl, rfl, rfl, rfl, by kernel_rfl⟩, ⟨_, _, _, Tryz.underlying149⟩, by kernel_rfl⟩
theorem tok150 : Wk.TOk Tryz.prog 150 ⟨.func, 1, 8, [Go.Value.nilFunc]⟩ := ⟨⟨Tryz.t150, _, by kernel_rfl, rfl, rfl, rfl, by kernel_rfl⟩, ⟨_, _, _, Tryz.underlying150⟩, by kernel_rfl⟩
theorem tok151 : Wk.TOk Tryz.prog 151 ⟨.map 3 3, 1, 8, [(Go.Value.map none)]⟩ := ⟨⟨Tryz.t151, _, by kernel_rfl, rfl, rfl, rfl, by kernel_rfl⟩, Tryz.underlying151, by kernel_rfl⟩
theorem tok152 : Wk.TOk Tryz.prog 152 ⟨.func, 1, 8, [Go.Value.nilFunc]⟩ := ⟨⟨Tryz.t152, _, by kernel_rfl, rfl, rfl, rfl, by kernel_rfl⟩, ⟨_, _, _, Tryz.underlying152⟩, by kernel_rfl⟩
theorem tok153 : Wk.TOk Tryz.prog 153 ⟨.int Go.IntKind.u64, 1, 8, [(Go.Value.int Go.IntKind.u64 0)]⟩ := ⟨⟨Tryz.t153, _, by kernel_rfl, rfl, rfl, rfl, by kernel_rfl⟩, Tryz.underlying153, by kernel_rfl⟩
theorem tok155 : Wk.TOk Tryz.prog 155 ⟨.func, 1, 8, [Go.Value.nilFunc]⟩ := ⟨⟨Tryz.t155, _, by kernel_rfl, rfl, rfl, rfl, by kernel_rfl⟩, ⟨_, _, _, Tryz.underlying155⟩, by kernel_rfl⟩
theorem tok156 : Wk.TOk Tryz.prog 156 ⟨.func, 1, 8, [Go.Value.nilFunc]⟩ := ⟨⟨Tryz.t156, _, by kernel_rfl, rfl, rfl, rfl, by kernel_rfl⟩, ⟨_, _, _, Tryz.underlying156⟩, by kernel_rfl⟩
theorem tok157 : Wk.TOk Tryz.prog 157 ⟨.func, 1, 8, [Go.Value.nilFunc]⟩ := ⟨⟨Tryz.t157, _, by kernel_rfl, rfl, rfl, rfl, by kernel_rfl⟩, ⟨_, _, _, Tryz.underlying157⟩, by kernel_rfl⟩
theorem tok158 : Wk.TOk Tryz.prog 158 ⟨.func, 1, 8, [Go.Value.nilFunc]⟩ := ⟨⟨Tryz.t158, _, by kernel_rfl, rfl, rfl, rfl, by kernel_rfl⟩, ⟨_, _, _, Tryz.underlying158⟩, by kernel_rfl⟩
theorem tok159 : Wk.TOk Tryz.prog 159 ⟨.ptr 35, 1, 8, [(Go.Value.pointer none)]⟩ := ⟨⟨Tryz.t159, _, by kernel_rfl, rfl, rfl, rfl, by kernel_rfl⟩, Tryz.underlying159, by kernel_rfl⟩
theorem tok160 : Wk.TOk Tryz.prog 160 ⟨.func, 1, 8, [Go.Value.nilFunc]⟩ := ⟨⟨Tryz.t160, _, by kernel_rfl, rfl, rfl, rfl, by kernel_rfl⟩, ⟨_, _, _, Tryz.underlying160⟩, by kernel_rfl⟩
theorem tok161 : Wk.TOk Tryz.prog 161 ⟨.func, 1, 8, [Go.Value.nilFunc]⟩ := ⟨⟨Tryz.t161, _, by kernel_rfl, rfl, rfl, rfl, by kernel_rfl⟩, ⟨_, _, _, Tryz.underlying161⟩, by kernel_rfl⟩
theorem tok162 : Wk.TOk Tryz.prog 162 ⟨.func, 1, 8, [Go.Value.nilFunc]⟩ := ⟨⟨Tryz.t162, _, by kernel_rfl, rfl, rfl, rfl, by kernel_rfl⟩, ⟨_, _, _, Tryz.underlying162⟩, by kernel_rfl⟩
theorem tok163 : Wk.TOk Tryz.prog 163 ⟨.func, 1, 8, [Go.Value.nilFunc]⟩ := ⟨⟨Tryz.t163, _, by kernel_rfl, rfl, rfl, rfl, by kernel_rfl⟩, ⟨_, _, _, Tryz.underlying163⟩, by kernel_rfl⟩
theorem tok164 : Wk.TOk Tryz.prog 164 ⟨.func, 1, 8, [Go.Value.nilFunc]⟩ := ⟨⟨Tryz.t164, _, by kernel_rfl, rfl, rfl, rfl, by kernel_rfl⟩, ⟨_, _, _, Tryz.underlying164⟩, by kernel_rfl⟩
theorem tok165 : Wk.TOk Tryz.prog 165 ⟨.func, 1, 8, [Go.Value.nilFunc]⟩ := ⟨⟨Tryz.t165, _, by kernel_rfl, rfl, rfl, rfl, by kernel_rfl⟩, ⟨_, _, _, Tryz.underlying165⟩, by kernel_rfl⟩
theorem tok166 : Wk.TOk Tryz.prog 166 ⟨.func, 1, 8, [Go.Value.nilFunc]⟩ := ⟨⟨Tryz.t166, _, by kernel_rfl, rfl, rfl, rfl, by kernel_rfl⟩, ⟨_, _, _, Tryz.underlying166⟩, by kernel_rfl⟩
theorem tok167 : Wk.TOk Tryz.prog 167 ⟨.strct [], 0, 0, []⟩ := ⟨⟨Tryz.t167, _, by kernel_rfl, rfl, rfl, rfl, by kernel_rfl⟩, ⟨_, Tryz.underlying167, by kernel_rfl, Tryz.stoodInHeld167, by kernel_rfl⟩, by kernel_rfl⟩
theorem tok168 : Wk.TOk Tryz.prog 168 ⟨.strct [], 0, 0, []⟩ := ⟨⟨Tryz.t168, _, by kernel_rfl, rfl, rfl, rfl, by kernel_rfl⟩, ⟨_, Tryz.underlying168, by kernel_rfl, Tryz.stoodInHeld168, by kernel_rfl⟩, by kernel_rfl⟩
theorem tok170 : Wk.TOk Tryz.prog 170 ⟨.func, 1, 8, [Go.Value.nilFunc]⟩ := ⟨⟨Tryz.t170, _, by kernel_rfl, rfl, rfl, rfl, by kernel_rfl⟩, ⟨_, _, _, Tryz.underlying170⟩, by kernel_rfl⟩
theorem tok172 : Wk.TOk Tryz.prog 172 ⟨.func, 1, 8, [Go.Value.nilFunc]⟩ := ⟨⟨Tryz.t172, _, by kernel_rfl, rfl, rfl, rfl, by kernel_rfl⟩, ⟨_, _, _, Tryz.underlying172⟩, by kernel_rfl⟩
theorem tok174 : Wk.TOk Tryz.prog 174 ⟨.func, 1, 8, [Go.Value.nilFunc]⟩ := ⟨⟨Tryz.t174, _, by kernel_rfl, rfl, rfl, rfl, by kernel_rfl⟩, ⟨_, _, _, Tryz.underlying174⟩, by kernel_rfl⟩
theorem tok175 : Wk.TOk Tryz.prog 175 ⟨.func, 1, 8, [Go.Value.nilFunc]⟩ := ⟨⟨Tryz.t175, _, by kernel_rfl, rfl, rfl, rfl, by kernel_rfl⟩, ⟨_, _, _, Tryz.underlying175⟩, by kernel_rfl⟩
theorem tok177 : Wk.TOk Tryz.prog 177 ⟨.func, 1, 8, [Go.Value.nilFunc]⟩ := ⟨⟨Tryz.t177, _, by kernel_rfl, rfl, rfl, rfl, by kernel_rfl⟩, ⟨_, _, _, Tryz.underlying177⟩, by kernel_rfl⟩
theorem tok178 : Wk.TOk Tryz.prog 178 ⟨.func, 1, 8, [Go.Value.nilFunc]⟩ := ⟨⟨Tryz.t178, _, by kernel_rfl, rfl, rfl, rfl, by kernel_rfl⟩, ⟨_, _, _, Tryz.underlying178⟩, by kernel_rfl⟩
theorem tok179 : Wk.TOk Tryz.prog 179 ⟨.func, 1, 8, [Go.Value.nilFunc]⟩ := ⟨⟨Tryz.t179, _, by kernel_rfl, rfl, rfl, rfl, by kernel_rfl⟩, ⟨_, _, _, Tryz.underlying179⟩, by kernel_rfl⟩
theorem tok181 : Wk.TOk Tryz.prog 181 ⟨.func, 1, 8, [Go.Value.nilFunc]⟩ := ⟨⟨Tryz.t181, _, by kernel_rfl, rfl, rfl, rfl, by kernel_rfl⟩, ⟨_, _, _, Tryz.underlying181⟩, by kernel_rfl⟩
theorem tok182 : Wk.TOk Tryz.prog 182 ⟨.ptr 185, 1, 8, [(Go.Value.pointer none)]⟩ := ⟨⟨Tryz.t182, _, by kernel_rfl, rfl, rfl, rfl, by kernel_rfl⟩, Tryz.underlying182, by kernel_rfl⟩
theorem tok183 : Wk.TOk Tryz.prog 183 ⟨.slice 5, 1, 24, [(Go.Value.slice none 0 0)]⟩ := ⟨⟨Tryz.t183, _, by kernel_rfl, rfl, rfl, rfl, by kernel_rfl⟩, Tryz.underlying183, by kernel_rfl⟩
theorem tok184 : Wk.TOk Tryz.prog 184 ⟨.strct [(0, 1, 182), (1, 1, 183)], 2, 32, [(Go.Value.pointer none), (Go.Value.slice none 0 0)]⟩ := ⟨⟨Tryz.t184, _, by kernel_rfl, rfl, rfl, rfl, by kernel_rfl⟩, ⟨_, Tryz.underlying184, by kernel_rfl, Tryz.stoodInHeld184, by kernel_rfl⟩, by kernel_rfl⟩
theorem tok185 : Wk.TOk Tryz.prog 185 ⟨.strct [(0, 1, 182), (1, 1, 183)], 2, 32, [(Go.Value.pointer none), (Go.Value.slice none 0 0)]⟩ := ⟨⟨Tryz.t185, _, by kernel_rfl, rfl, rfl, rfl, by kernel_rfl⟩, ⟨_, Tryz.underlying185, by kernel_rfl, Tryz.stoodInHeld185, by kernel_rfl⟩, by kernel_rfl⟩
theorem tok186 : Wk.TOk Tryz.prog 186 ⟨.iface, 1, 16, [Go.Value.nilIface]⟩ := ⟨⟨Tryz.t186, _, by kernel_rfl, rfl, rfl, rfl, by kernel_rfl⟩, ⟨_, Tryz.underlying186⟩, by kernel_rfl⟩
theorem tok187 : Wk.TOk Tryz.prog 187 ⟨.iface, 1, 16, [Go.Value.nilIface]⟩ := ⟨⟨Tryz.t187, _, by kernel_rfl, rfl, rfl, rfl, by kernel_rfl⟩, ⟨_, Tryz.underlying187⟩, by kernel_rfl⟩
theorem tok189 : Wk.TOk Tryz.prog 189 ⟨.func, 1, 8, [Go.Value.nilFunc]⟩ := ⟨⟨Tryz.t189, _, by kernel_rfl, rfl, rfl, rfl, by kernel_rfl⟩, ⟨_, _, _, Tryz.underlying189⟩, by kernel_rfl⟩
theorem tok190 : Wk.TOk Tryz.prog 190 ⟨.func, 1, 8, [Go.Value.nilFunc]⟩ := ⟨⟨Tryz.t190, _, by kernel_rfl, rfl, rfl, rfl, by kernel_rfl⟩, ⟨_, _, _, Tryz.underlying190⟩, by kernel_rfl⟩
theorem tok191 : Wk.TOk Tryz.prog 191 ⟨.func, 1, 8, [Go.Value.nilFunc]⟩ := ⟨⟨Tryz.t191, _, by kernel_rfl, rfl, rfl, rfl, by kernel_rfl⟩, ⟨_, _, _, Tryz.underlying191⟩, by kernel_rfl⟩
theorem tok192 : Wk.TOk Tryz.prog 192 ⟨.arr 9 5, 9, 9, [(Go.Value.int Go.IntKind.u8 0), (Go.Value.int Go.IntKind.u8 0), (Go.Value.int Go.IntKind.u8 0), (Go.Value.int Go.IntKind.u8 0), (Go.Value.int Go.IntKind.u8 0), (Go.Value.int Go.IntKind.u8 0), (Go.Value.int Go.IntKind.u8 0), (Go.Value.int Go.IntKind.u8 0), (Go.Value.int Go.IntKind.u8 0)]⟩ := ⟨⟨Tryz.t192, _, by kernel_rfl, rfl, rfl, rfl, by kernel_rfl⟩, Tryz.underlying192, by kernel_rfl⟩
theorem tok193 : Wk.TOk Tryz.prog 193 ⟨.int Go.IntKind.u64, 1, 8, [(Go.Value.int Go.IntKind.u64 0)]⟩ := ⟨⟨Tryz.t193, _, by kernel_rfl, rfl, rfl, rfl, by kernel_rfl⟩, Tryz.underlying193, by kernel_rfl⟩
theorem tok194 : Wk.TOk Tryz.prog 194 ⟨.func, 1, 8, [Go.Value.nilFunc]⟩ := ⟨⟨Tryz.t194, _, by kernel_rfl, rfl, rfl, rfl, by kernel_rfl⟩, ⟨_, _, _, Tryz.underlying194⟩, by kernel_rfl⟩
theorem tok195 : Wk.TOk Tryz.prog 195 ⟨.func, 1, 8, [Go.Value.nilFunc]⟩ := ⟨⟨Tryz.t195, _, by kernel_rfl, rfl, rfl, rfl, by kernel_rfl⟩, ⟨_, _, _, Tryz.underlying195⟩, by kernel_rfl⟩
theorem tok196 : Wk.TOk Tryz.prog 196 ⟨.func, 1, 8, [Go.Value.nilFunc]⟩ := ⟨⟨Tryz.t196, _, by kernel_rfl, rfl, rfl, rfl, by kernel_rfl⟩, ⟨_, _, _, Tryz.underlying196⟩, by kernel_rfl⟩
theorem tok197 : Wk.TOk Tryz.prog 197 ⟨.func, 1, 8, [Go.Value.nilFunc]⟩ := ⟨⟨Tryz.t197, _, by kernel_rfl, rfl, rfl, rfl, by kernel_rfl⟩, ⟨_, _, _, Tryz.underlying197⟩, by kernel_rfl⟩
theorem tok198 : Wk.TOk Tryz.prog 198 ⟨.func, 1, 8, [Go.Value.nilFunc]⟩ := ⟨⟨Tryz.t198, _, by kernel_rfl, rfl, rfl, rfl, by kernel_rfl⟩, ⟨_, _, _, Tryz.underlying198⟩, by kernel_rfl⟩
theorem tok199 : Wk.TOk Tryz.prog 199 ⟨.strct [(0, 1, 29)], 1, 8, [(Go.Value.int Go.IntKind.i64 0)]⟩ := ⟨⟨Tryz.t199, _, by kernel_rfl, rfl, rfl, rfl, by kernel_rfl⟩, ⟨_, Tryz.underlying199, by kernel_rfl, Tryz.stoodInHeld199, by kernel_rfl⟩, by kernel_rfl⟩
theorem tok200 : Wk.TOk Tryz.prog 200 ⟨.strct [(0, 1, 29)], 1, 8, [(Go.Value.int Go.IntKind.i64 0)]⟩ := ⟨⟨Tryz.t200, _, by kernel_rfl, rfl, rfl, rfl, by kernel_rfl⟩, ⟨_, Tryz.underlying200, by kernel_rfl, Tryz.stoodInHeld200, by kernel_rfl⟩, by kernel_rfl⟩
theorem tok201 : Wk.TOk Tryz.prog 201 ⟨.ptr 5, 1, 8, [(Go.Value.pointer none)]⟩ := ⟨⟨Tryz.t201, _, by kernel_rfl, rfl, rfl, rfl, by kernel_rfl⟩, Tryz.underlying201, by kernel_rfl⟩
theorem tok203 : Wk.TOk Tryz.prog 203 ⟨.func, 1, 8, [Go.Value.nilFunc]⟩ := ⟨⟨Tryz.t203, _, by kernel_rfl, rfl, rfl, rfl, by kernel_rfl⟩, ⟨_, _, _, Tryz.underlying203⟩, by kernel_rfl⟩
theorem tok204 : Wk.TOk Tryz.prog 204 ⟨.func, 1, 8, [Go.Value.nilFunc]⟩ := ⟨⟨Tryz.t204, _, by kernel_rfl, rfl, rfl, rfl, by kernel_rfl⟩, ⟨_, _, _, Tryz.underlying204⟩, by kernel_rfl⟩
theorem tok206 : Wk.TOk Tryz.prog 206 ⟨.func, 1, 8, [Go.Value.nilFunc]⟩ := ⟨⟨Tryz.t206, _, by kernel_rfl, rfl, rfl, rfl, by kernel_rfl⟩, ⟨_, _, _, Tryz.underlying206⟩, by kernel_rfl⟩
theorem tok207 : Wk.TOk Tryz.prog 207 ⟨.func, 1, 8, [Go.Value.nilFunc]⟩ := ⟨⟨Tryz.t207, _, by kernel_rfl, rfl, rfl, rfl, by kernel_rfl⟩, ⟨_, _, _, Tryz.underlying207⟩, by kernel_rfl⟩
theorem tok208 : Wk.TOk Tryz.prog 208 ⟨.func, 1, 8, [Go.Value.nilFunc]⟩ := ⟨⟨Tryz.t208, _, by kernel_rfl, rfl, rfl, rfl, by kernel_rfl⟩, ⟨_, _, _, Tryz.underlying208⟩, by kernel_rfl⟩
theorem tok209 : Wk.TOk Tryz.prog 209 ⟨.func, 1, 8, [Go.Value.nilFunc]⟩ := ⟨⟨Tryz.t209, _, by kernel_rfl, rfl, rfl, rfl, by kernel_rfl⟩, ⟨_, _, _, Tryz.underlying209⟩, by kernel_rfl⟩
theorem tok210 : Wk.TOk Tryz.prog 210 ⟨.func, 1, 8, [Go.Value.nilFunc]⟩ := ⟨⟨Tryz.t210, _, by kernel_rfl, rfl, rfl, rfl, by kernel_rfl⟩, ⟨_, _, _, Tryz.underlying210⟩, by kernel_rfl⟩
theorem tok213 : Wk.TOk Tryz.prog 213 ⟨.arr 0 16, 0, 0, []⟩ := ⟨⟨Tryz.t213, _, by kernel_rfl, rfl, rfl, rfl, by kernel_rfl⟩, Tryz.underlying213, by kernel_rfl⟩
theorem tok216 : Wk.TOk Tryz.prog 216 ⟨.int Go.IntKind.u32, 1, 4, [(Go.Value.int Go.IntKind.u32 0)]⟩ := ⟨⟨Tryz.t216, _, by kernel_rfl, rfl, rfl, rfl, by kernel_rfl⟩, Tryz.underlying216, by kernel_rfl⟩
theorem tok217 : Wk.TOk Tryz.prog 217 ⟨.int Go.IntKind.u8, 1, 1, [(Go.Value.int Go.IntKind.u8 0)]⟩ := ⟨⟨Tryz.t217, _, by kernel_rfl, rfl, rfl, rfl, by kernel_rfl⟩, Tryz.underlying217, by kernel_rfl⟩
theorem tok218 : Wk.TOk Tryz.prog 218 ⟨.int Go.IntKind.u8, 1, 1, [(Go.Value.int Go.IntKind.u8 0)]⟩ := ⟨⟨Tryz.t218, _, by kernel_rfl, rfl, rfl, rfl, by kernel_rfl⟩, Tryz.underlying218, by kernel_rfl⟩
theorem tok219 : Wk.TOk Tryz.prog 219 ⟨.func, 1, 8, [Go.Value.nilFunc]⟩ := ⟨⟨Tryz.t219, _, by kernel_rfl, rfl, rfl, rfl, by kernel_rfl⟩, ⟨_, _, _, Tryz.underlying219⟩, by kernel_rfl⟩
theorem tok220 : Wk.TOk Tryz.prog 220 ⟨.int Go.IntKind.i32, 1, 4, [(Go.Value.int Go.IntKind.i32 0)]⟩ := ⟨⟨Tryz.t220, _, by kernel_rfl, rfl, rfl, rfl, by kernel_rfl⟩, Tryz.underlying220, by kernel_rfl⟩
theorem tok221 : Wk.TOk Tryz.prog 221 ⟨.int Go.IntKind.i32, 1, 4, [(Go.Value.int Go.IntKind.i32 0)]⟩ := ⟨⟨Tryz.t221, _, by kernel_rfl, rfl, rfl, rfl, by kernel_rfl⟩, Tryz.underlying221, by kernel_rfl⟩
theorem okT : Wk.Ok Tryz.prog TT := Wk.ok_of TTl ⟨tok1, tok2, tok3, tok4, tok5, tok6, tok7, tok8, tok9, tok10, tok11, tok12, tok15, tok16, tok17, tok20, tok21, tok22, tok23, tok24, tok25, tok26, tok27, tok28, tok29, tok31, tok32, tok33, tok34, tok35, tok36, tok37, tok39, tok40, tok41, tok42, tok44, tok45, tok46, tok47, tok48, tok49, tok51, tok52, tok53, tok54, tok55, tok56, tok57, tok58, tok59, tok60, tok61, tok62, tok63, tok64, tok66, tok68, tok69, tok70, tok71, tok72, tok73, tok74, tok76, tok77, tok78, tok80, tok81, tok82, tok83, tok84, tok85, tok87, tok88, tok89, tok90, tok91, tok92, tok93, tok95, tok96, tok98, tok100, tok101, tok102, tok103, tok104, tok105, tok106, tok107, tok108, tok109, tok110, tok111, tok112, tok114, tok115, tok116, tok117, tok119, tok120, tok121, tok122, tok123, tok124, tok125, tok126, tok127, tok128, tok129, tok130, tok131, tok132, tok133, tok134, tok135, tok136, tok137, tok138, tok139, tok140, tok141, tok142, tok143, tok144, tok145, tok146, tok148, tok149, tok150, tok151, tok152, tok153, tok155, tok156, tok157, tok158, tok159, tok160, tok161, tok162, tok163, tok164, tok165, tok166, tok167, tok168, tok170, tok172, tok174, tok175, tok177, tok178, tok179, tok181, tok182, tok183, tok184, tok185, tok186, tok187, tok189, tok190, tok191, tok192, tok193, tok194, tok195, tok196, tok197, tok198, tok199, tok200, tok201, tok203, tok204, tok206, tok207, tok208, tok209, tok210, tok213, tok216, tok217, tok218, tok219, tok220, tok221, trivial⟩ (by kernel_rfl) (by kernel_rfl)
theorem fok19 : Wk.FOk Tryz.prog 19 := ⟨Tryz.f19, Tryz.func19, by kernel_rfl, by kernel_rfl⟩
theorem fok20 : Wk.FOk Tryz.prog 20 := ⟨Tryz.f20, Tryz.func20, by kernel_rfl, by kernel_rfl⟩
theorem fok21 : Wk.FOk Tryz.prog 21 := ⟨Tryz.f21, Tryz.func21, by kernel_rfl, by kernel_rfl⟩
theorem fok23 : Wk.FOk Tryz.prog 23 := ⟨Tryz.f23, Tryz.func23, by kernel_rfl, by kernel_rfl⟩
theorem fok36 : Wk.FOk Tryz.prog 36 := ⟨Tryz.f36, Tryz.func36, by kernel_rfl, by kernel_rfl⟩
theorem fok37 : Wk.FOk Tryz.prog 37 := ⟨Tryz.f37, Tryz.func37, by kernel_rfl, by kernel_rfl⟩
theorem fok42 : Wk.FOk Tryz.prog 42 := ⟨Tryz.f42, Tryz.func42, by kernel_rfl, by kernel_rfl⟩
theorem fok43 : Wk.FOk Tryz.prog 43 := ⟨Tryz.f43, Tryz.func43, by kernel_rfl, by kernel_rfl⟩
theorem fok44 : Wk.FOk Tryz.prog 44 := ⟨Tryz.f44, Tryz.func44, by kernel_rfl, by kernel_rfl⟩
theorem fok45 : Wk.FOk Tryz.prog 45 := ⟨Tryz.f45, Tryz.func45, by kernel_rfl, by kernel_rfl⟩
theorem fok50 : Wk.FOk Tryz.prog 50 := ⟨Tryz.f50, Tryz.func50, by kernel_rfl, by kernel_rfl⟩
theorem fok51 : Wk.FOk Tryz.prog 51 := ⟨Tryz.f51, Tryz.func51, by kernel_rfl, by kernel_rfl⟩
theorem fok52 : Wk.FOk Tryz.prog 52 := ⟨Tryz.f52, Tryz.func52, by kernel_rfl, by kernel_rfl⟩
theorem fok53 : Wk.FOk Tryz.prog 53 := ⟨Tryz.f53, Tryz.func53, by kernel_rfl, by kernel_rfl⟩
theorem fok54 : Wk.FOk Tryz.prog 54 := ⟨Tryz.f54, Tryz.func54, by kernel_rfl, by kernel_rfl⟩
theorem fok56 : Wk.FOk Tryz.prog 56 := ⟨Tryz.f56, Tryz.func56, by kernel_rfl, by kernel_rfl⟩
theorem fok60 : Wk.FOk Tryz.prog 60 := ⟨Tryz.f60, Tryz.func60, by kernel_rfl, by kernel_rfl⟩
theorem fok62 : Wk.FOk Tryz.prog 62 := ⟨Tryz.f62, Tryz.func62, by kernel_rfl, by kernel_rfl⟩
theorem fok65 : Wk.FOk Tryz.prog 65 := ⟨Tryz.f65, Tryz.func65, by kernel_rfl, by kernel_rfl⟩
theorem fok66 : Wk.FOk Tryz.prog 66 := ⟨Tryz.f66, Tryz.func66, by kernel_rfl, by kernel_rfl⟩
theorem fok67 : Wk.FOk Tryz.prog 67 := ⟨Tryz.f67, Tryz.func67, by kernel_rfl, by kernel_rfl⟩
theorem fok68 : Wk.FOk Tryz.prog 68 := ⟨Tryz.f68, Tryz.func68, by kernel_rfl, by kernel_rfl⟩
theorem fok69 : Wk.FOk Tryz.prog 69 := ⟨Tryz.f69, Tryz.func69, by kernel_rfl, by kernel_rfl⟩
theorem fok70 : Wk.FOk Tryz.prog 70 := ⟨Tryz.f70, Tryz.func70, by kernel_rfl, by kernel_rfl⟩
theorem fok71 : Wk.FOk Tryz.prog 71 := ⟨Tryz.f71, Tryz.func71, by kernel_rfl, by kernel_rfl⟩
theorem fok72 : Wk.FOk Tryz.prog 72 := ⟨Tryz.f72, Tryz.func72, by kernel_rfl, by kernel_rfl⟩
theorem fok83 : Wk.FOk Tryz.prog 83 := ⟨Tryz.f83, Tryz.func83, by kernel_rfl, by kernel_rfl⟩
theorem fok90 : Wk.FOk Tryz.prog 90 := ⟨Tryz.f90, Tryz.func90, by kernel_rfl, by kernel_rfl⟩
theorem fok91 : Wk.FOk Tryz.prog 91 := ⟨Tryz.f91, Tryz.func91, by kernel_rfl, by kernel_rfl⟩
theorem fok92 : Wk.FOk Tryz.prog 92 := ⟨Tryz.f92, Tryz.func92, by kernel_rfl, by kernel_rfl⟩
theorem fok93 : Wk.FOk Tryz.prog 93 := ⟨Tryz.f93, Tryz.func93, by kernel_rfl, by kernel_rfl⟩
theorem fok104 : Wk.FOk Tryz.prog 104 := ⟨Tryz.f104, Tryz.func104, by kernel_rfl, by kernel_rfl⟩
theorem fok108 : Wk.FOk Tryz.prog 108 := ⟨Tryz.f108, Tryz.func108, by kernel_rfl, by kernel_rfl⟩
theorem fok109 : Wk.FOk Tryz.prog 109 := ⟨Tryz.f109, Tryz.func109, by kernel_rfl, by kernel_rfl⟩
theorem fok111 : Wk.FOk Tryz.prog 111 := ⟨Tryz.f111, Tryz.func111, by kernel_rfl, by kernel_rfl⟩
theorem fok116 : Wk.FOk Tryz.prog 116 := ⟨Tryz.f116, Tryz.func116, by kernel_rfl, by kernel_rfl⟩
theorem fok117 : Wk.FOk Tryz.prog 117 := ⟨Tryz.f117, Tryz.func117, by kernel_rfl, by kernel_rfl⟩
theorem fok118 : Wk.FOk Tryz.prog 118 := ⟨Tryz.f118, Tryz.func118, by kernel_rfl, by kernel_rfl⟩
theorem fok120 : Wk.FOk Tryz.prog 120 := ⟨Tryz.f120, Tryz.func120, by kernel_rfl, by kernel_rfl⟩
theorem fok121 : Wk.FOk Tryz.prog 121 := ⟨Tryz.f121, Tryz.func121, by kernel_rfl, by kernel_rfl⟩
theorem fok122 : Wk.FOk Tryz.prog 122 := ⟨Tryz.f122, Tryz.func122, by kernel_rfl, by kernel_rfl⟩
theorem fok123 : Wk.FOk Tryz.prog 123 := ⟨Tryz.f123, Tryz.func123, by kernel_rfl, by kernel_rfl⟩
theorem fok124 : Wk.FOk Tryz.prog 124 := ⟨Tryz.f124, Tryz.func124, by kernel_rfl, by kernel_rfl⟩
theorem fok125 : Wk.FOk Tryz.prog 125 := ⟨Tryz.f125, Tryz.func125, by kernel_rfl, by kernel_rfl⟩
theorem fok131 : Wk.FOk Tryz.prog 131 := ⟨Tryz.f131, Tryz.func131, by kernel_rfl, by kernel_rfl⟩
theorem fok133 : Wk.FOk Tryz.prog 133 := ⟨Tryz.f133, Tryz.func133, by kernel_rfl, by kernel_rfl⟩
theorem fok135 : Wk.FOk Tryz.prog 135 := ⟨Tryz.f135, Tryz.func135, by kernel_rfl, by kernel_rfl⟩
theorem fok139 : Wk.FOk Tryz.prog 139 := ⟨Tryz.f139, Tryz.func139, by kernel_rfl, by kernel_rfl⟩
theorem fok145 : Wk.FOk Tryz.prog 145 := ⟨Tryz.f145, Tryz.func145, by kernel_rfl, by kernel_rfl⟩
theorem fok148 : Wk.FOk Tryz.prog 148 := ⟨Tryz.f148, Tryz.func148, by kernel_rfl, by kernel_rfl⟩
theorem fok154 : Wk.FOk Tryz.prog 154 := ⟨Tryz.f154, Tryz.func154, by kernel_rfl, by kernel_rfl⟩
theorem fok155 : Wk.FOk Tryz.prog 155 := ⟨Tryz.f155, Tryz.func155, by kernel_rfl, by kernel_rfl⟩
theorem fok160 : Wk.FOk Tryz.prog 160 := ⟨Tryz.f160, Tryz.func160, by kernel_rfl, by kernel_rfl⟩
theorem fok161 : Wk.FOk Tryz.prog 161 := ⟨Tryz.f161, Tryz.func161, by kernel_rfl, by kernel_rfl⟩
theorem fok163 : Wk.FOk Tryz.prog 163 := ⟨Tryz.f163, Tryz.func163, by kernel_rfl, by kernel_rfl⟩
theorem fok165 : Wk.FOk Tryz.prog 165 := ⟨Tryz.f165, Tryz.func165, by kernel_rfl, by kernel_rfl⟩
theorem fok166 : Wk.FOk Tryz.prog 166 := ⟨Tryz.f166, Tryz.func166, by kernel_rfl, by kernel_rfl⟩
theorem fok167 : Wk.FOk Tryz.prog 167 := ⟨Tryz.f167, Tryz.func167, by kernel_rfl, by kernel_rfl⟩
theorem fok168 : Wk.FOk Tryz.prog 168 := ⟨Tryz.f168, Tryz.func168, by kernel_rfl, by kernel_rfl⟩
theorem fok169 : Wk.FOk Tryz.prog 169 := ⟨Tryz.f169, Tryz.func169, by kernel_rfl, by kernel_rfl⟩
theorem fok175 : Wk.FOk Tryz.prog 175 := ⟨Tryz.f175, Tryz.func175, by kernel_rfl, by kernel_rfl⟩
theorem fok176 : Wk.FOk Tryz.prog 176 := ⟨Tryz.f176, Tryz.func176, by kernel_rfl, by kernel_rfl⟩
theorem fok177 : Wk.FOk Tryz.prog 177 := ⟨Tryz.f177, Tryz.func177, by kernel_rfl, by kernel_rfl⟩
theorem fok178 : Wk.FOk Tryz.prog 178 := ⟨Tryz.f178, Tryz.func178, by kernel_rfl, by kernel_rfl⟩
theorem fok179 : Wk.FOk Tryz.prog 179 := ⟨Tryz.f179, Tryz.func179, by kernel_rfl, by kernel_rfl⟩
theorem fok180 : Wk.FOk Tryz.prog 180 := ⟨Tryz.f180, Tryz.func180, by kernel_rfl, by kernel_rfl⟩
theorem fok181 : Wk.FOk Tryz.prog 181 := ⟨Tryz.f181, Tryz.func181, by kernel_rfl, by kernel_rfl⟩
theorem fok182 : Wk.FOk Tryz.prog 182 := ⟨Tryz.f182, Tryz.func182, by kernel_rfl, by kernel_rfl⟩
theorem fok183 : Wk.FOk Tryz.prog 183 := ⟨Tryz.f183, Tryz.func183, by kernel_rfl, by kernel_rfl⟩
theorem fok184 : Wk.FOk Tryz.prog 184 := ⟨Tryz.f184, Tryz.func184, by kernel_rfl, by kernel_rfl⟩
theorem fok185 : Wk.FOk Tryz.prog 185 := ⟨Tryz.f185, Tryz.func185, by kernel_rfl, by kernel_rfl⟩
theorem fok187 : Wk.FOk Tryz.prog 187 := ⟨Tryz.f187, Tryz.func187, by kernel_rfl, by kernel_rfl⟩
theorem fok188 : Wk.FOk Tryz.prog 188 := ⟨Tryz.f188, Tryz.func188, by kernel_rfl, by kernel_rfl⟩
theorem fok189 : Wk.FOk Tryz.prog 189 := ⟨Tryz.f189, Tryz.func189, by kernel_rfl, by kernel_rfl⟩
theorem fok192 : Wk.FOk Tryz.prog 192 := ⟨Tryz.f192, Tryz.func192, by kernel_rfl, by kernel_rfl⟩
theorem fok193 : Wk.FOk Tryz.prog 193 := ⟨Tryz.f193, Tryz.func193, by kernel_rfl, by kernel_rfl⟩
end Go.Proofs.YtpcilobbohokcaaGreat
