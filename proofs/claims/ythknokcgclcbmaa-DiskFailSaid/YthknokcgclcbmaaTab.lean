/-
  What is proved: the table of this program's types, written out, is right; each function that is called has a body. Conditions: none.
-/
import Derived.Test.YthknokcgclcbmaaSyh
import Derived.Test.YthknokcgclcbmaaRows
namespace Go.Proofs
open Go.Sy

def Try.tab : Tab :=
  [some { k := TK.other, size := 1, bytes := 0, zero := [Value.tuple #[]] },
    some { k := TK.func, size := 1, bytes := 8, zero := [Value.nilFunc] },
    some { k := TK.int IntKind.i64, size := 1, bytes := 8, zero := [Value.int IntKind.i64 (0)] },
    some { k := TK.int IntKind.i64, size := 1, bytes := 8, zero := [Value.int IntKind.i64 (0)] },
    some { k := TK.bool, size := 1, bytes := 1, zero := [Value.bool false] },
    some { k := TK.int IntKind.u8, size := 1, bytes := 1, zero := [Value.int IntKind.u8 (0)] },
    some { k := TK.int IntKind.u8, size := 1, bytes := 1, zero := [Value.int IntKind.u8 (0)] },
    some
      { k := TK.struct [(0, 2), (1, 3), (2, 4), (3, 6)], size := 4, bytes := 24,
        zero :=
          [Value.int IntKind.i64 (0), Value.int IntKind.i64 (0), Value.bool false,
            Value.int IntKind.u8 (0)] },
    some
      { k := TK.struct [(0, 2), (1, 3), (2, 4), (3, 6)], size := 4, bytes := 24,
        zero :=
          [Value.int IntKind.i64 (0), Value.int IntKind.i64 (0), Value.bool false,
            Value.int IntKind.u8 (0)] },
    some { k := TK.string, size := 1, bytes := 16, zero := [Value.string ByteArray.empty] },
    some { k := TK.string, size := 1, bytes := 16, zero := [Value.string ByteArray.empty] },
    some { k := TK.string, size := 1, bytes := 16, zero := [Value.string ByteArray.empty] },
    some { k := TK.int IntKind.u64, size := 1, bytes := 8, zero := [Value.int IntKind.u64 (0)] },
    some
      { k := TK.struct [(0, 9), (1, 12)], size := 2, bytes := 24,
        zero := [Value.string ByteArray.empty, Value.int IntKind.u64 (0)] },
    some
      { k := TK.struct [(0, 9), (1, 12)], size := 2, bytes := 24,
        zero := [Value.string ByteArray.empty, Value.int IntKind.u64 (0)] },
    some { k := TK.ptr 103, size := 1, bytes := 8, zero := [Value.pointer none] },
    some { k := TK.ptr 106, size := 1, bytes := 8, zero := [Value.pointer none] },
    some { k := TK.ptr 115, size := 1, bytes := 8, zero := [Value.pointer none] },
    some { k := TK.struct [(0, 17)], size := 1, bytes := 8, zero := [Value.pointer none] },
    some { k := TK.struct [(0, 17)], size := 1, bytes := 8, zero := [Value.pointer none] },
    some { k := TK.other, size := 1, bytes := 16, zero := [Value.nilIface] },
    some { k := TK.int IntKind.i32, size := 1, bytes := 4, zero := [Value.int IntKind.i32 (0)] },
    some { k := TK.int IntKind.u16, size := 1, bytes := 2, zero := [Value.int IntKind.u16 (0)] },
    some { k := TK.slice 35, size := 1, bytes := 24, zero := [Value.slice none 0 0] },
    some { k := TK.func, size := 1, bytes := 8, zero := [Value.nilFunc] },
    some { k := TK.ptr 53, size := 1, bytes := 8, zero := [Value.pointer none] },
    some { k := TK.int IntKind.i64, size := 1, bytes := 8, zero := [Value.int IntKind.i64 (0)] },
    some
      { k := TK.other, size := 1, bytes := 0,
        zero := [Value.tuple { toList := [Value.pointer none, Value.int IntKind.i64 (0)] }] },
    some { k := TK.func, size := 1, bytes := 8, zero := [Value.nilFunc] },
    some { k := TK.func, size := 1, bytes := 8, zero := [Value.nilFunc] },
    some { k := TK.slice 9, size := 1, bytes := 24, zero := [Value.slice none 0 0] },
    some { k := TK.func, size := 1, bytes := 8, zero := [Value.nilFunc] },
    some { k := TK.func, size := 1, bytes := 8, zero := [Value.nilFunc] },
    some { k := TK.slice 3, size := 1, bytes := 24, zero := [Value.slice none 0 0] },
    some
      { k := TK.struct [(0, 5), (1, 9), (2, 9), (3, 9), (4, 3), (5, 33)], size := 6, bytes := 88,
        zero :=
          [Value.int IntKind.u8 (0), Value.string ByteArray.empty,
            Value.string ByteArray.empty, Value.string ByteArray.empty,
            Value.int IntKind.i64 (0), Value.slice none 0 0] },
    some
      { k := TK.struct [(0, 5), (1, 9), (2, 9), (3, 9), (4, 3), (5, 33)], size := 6, bytes := 88,
        zero :=
          [Value.int IntKind.u8 (0), Value.string ByteArray.empty,
            Value.string ByteArray.empty, Value.string ByteArray.empty,
            Value.int IntKind.i64 (0), Value.slice none 0 0] },
    some { k := TK.func, size := 1, bytes := 8, zero := [Value.nilFunc] },
    some { k := TK.func, size := 1, bytes := 8, zero := [Value.nilFunc] },
    some { k := TK.func, size := 1, bytes := 8, zero := [Value.nilFunc] },
    some { k := TK.func, size := 1, bytes := 8, zero := [Value.nilFunc] },
    some { k := TK.ptr 49, size := 1, bytes := 8, zero := [Value.pointer none] },
    some
      { k := TK.other, size := 1, bytes := 0,
        zero := [Value.tuple { toList := [Value.pointer none, Value.int IntKind.i64 (0)] }] },
    some { k := TK.func, size := 1, bytes := 8, zero := [Value.nilFunc] },
    some { k := TK.func, size := 1, bytes := 8, zero := [Value.nilFunc] },
    some { k := TK.func, size := 1, bytes := 8, zero := [Value.nilFunc] },
    some
      { k := TK.other, size := 1, bytes := 0,
        zero :=
          [Value.tuple { toList := [Value.string ByteArray.empty, Value.int IntKind.i64 (0)] }] },
    some { k := TK.func, size := 1, bytes := 8, zero := [Value.nilFunc] },
    some { k := TK.slice 82, size := 1, bytes := 24, zero := [Value.slice none 0 0] },
    some
      { k := TK.struct [(0, 3), (1, 3), (2, 4), (3, 47), (4, 4), (5, 3), (6, 33)], size := 7, bytes := 88,
        zero :=
          [Value.int IntKind.i64 (0), Value.int IntKind.i64 (0), Value.bool false,
            Value.slice none 0 0, Value.bool false, Value.int IntKind.i64 (0), Value.slice none 0 0] },
    some
      { k := TK.struct [(0, 3), (1, 3), (2, 4), (3, 47), (4, 4), (5, 3), (6, 33)], size := 7, bytes := 88,
        zero :=
          [Value.int IntKind.i64 (0), Value.int IntKind.i64 (0), Value.bool false,
            Value.slice none 0 0, Value.bool false, Value.int IntKind.i64 (0), Value.slice none 0 0] },
    some { k := TK.func, size := 1, bytes := 8, zero := [Value.nilFunc] },
    some { k := TK.slice 71, size := 1, bytes := 24, zero := [Value.slice none 0 0] },
    some
      { k := TK.struct [(0, 3), (1, 3), (2, 4), (3, 51), (4, 38), (5, 33)], size := 6, bytes := 80,
        zero :=
          [Value.int IntKind.i64 (0), Value.int IntKind.i64 (0), Value.bool false,
            Value.slice none 0 0, Value.nilFunc, Value.slice none 0 0] },
    some
      { k := TK.struct [(0, 3), (1, 3), (2, 4), (3, 51), (4, 38), (5, 33)], size := 6, bytes := 80,
        zero :=
          [Value.int IntKind.i64 (0), Value.int IntKind.i64 (0), Value.bool false,
            Value.slice none 0 0, Value.nilFunc, Value.slice none 0 0] },
    some { k := TK.func, size := 1, bytes := 8, zero := [Value.nilFunc] },
    some { k := TK.func, size := 1, bytes := 8, zero := [Value.nilFunc] },
    some { k := TK.func, size := 1, bytes := 8, zero := [Value.nilFunc] },
    some
      { k := TK.other, size := 1, bytes := 0,
        zero := [Value.tuple { toList := [Value.slice none 0 0, Value.bool false] }] },
    some { k := TK.func, size := 1, bytes := 8, zero := [Value.nilFunc] },
    some { k := TK.func, size := 1, bytes := 8, zero := [Value.nilFunc] },
    some { k := TK.func, size := 1, bytes := 8, zero := [Value.nilFunc] },
    some { k := TK.arr 2 23, size := 2, bytes := 48, zero := [Value.slice none 0 0, Value.slice none 0 0] },
    some { k := TK.func, size := 1, bytes := 8, zero := [Value.nilFunc] },
    some { k := TK.func, size := 1, bytes := 8, zero := [Value.nilFunc] },
    some
      { k := TK.other, size := 1, bytes := 0,
        zero := [Value.tuple { toList := [Value.string ByteArray.empty, Value.bool false] }] },
    some { k := TK.func, size := 1, bytes := 8, zero := [Value.nilFunc] },
    some { k := TK.func, size := 1, bytes := 8, zero := [Value.nilFunc] },
    some { k := TK.func, size := 1, bytes := 8, zero := [Value.nilFunc] },
    some { k := TK.func, size := 1, bytes := 8, zero := [Value.nilFunc] },
    some { k := TK.func, size := 1, bytes := 8, zero := [Value.nilFunc] },
    some
      { k := TK.struct [(0, 9), (1, 9), (2, 3)], size := 3, bytes := 40,
        zero :=
          [Value.string ByteArray.empty, Value.string ByteArray.empty,
            Value.int IntKind.i64 (0)] },
    some
      { k := TK.struct [(0, 9), (1, 9), (2, 3)], size := 3, bytes := 40,
        zero :=
          [Value.string ByteArray.empty, Value.string ByteArray.empty,
            Value.int IntKind.i64 (0)] },
    some { k := TK.func, size := 1, bytes := 8, zero := [Value.nilFunc] },
    some { k := TK.func, size := 1, bytes := 8, zero := [Value.nilFunc] },
    some { k := TK.func, size := 1, bytes := 8, zero := [Value.nilFunc] },
    some { k := TK.func, size := 1, bytes := 8, zero := [Value.nilFunc] },
    some { k := TK.func, size := 1, bytes := 8, zero := [Value.nilFunc] },
    some { k := TK.func, size := 1, bytes := 8, zero := [Value.nilFunc] },
    some { k := TK.func, size := 1, bytes := 8, zero := [Value.nilFunc] },
    some
      { k := TK.other, size := 1, bytes := 0,
        zero := [Value.tuple { toList := [Value.int IntKind.i64 (0), Value.int IntKind.i64 (0)] }] },
    some { k := TK.func, size := 1, bytes := 8, zero := [Value.nilFunc] },
    some
      { k := TK.struct [(0, 9), (1, 9), (2, 3)], size := 3, bytes := 40,
        zero :=
          [Value.string ByteArray.empty, Value.string ByteArray.empty,
            Value.int IntKind.i64 (0)] },
    some
      { k := TK.struct [(0, 9), (1, 9), (2, 3)], size := 3, bytes := 40,
        zero :=
          [Value.string ByteArray.empty, Value.string ByteArray.empty,
            Value.int IntKind.i64 (0)] },
    some { k := TK.ptr 71, size := 1, bytes := 8, zero := [Value.pointer none] },
    some { k := TK.func, size := 1, bytes := 8, zero := [Value.nilFunc] },
    some
      { k := TK.other, size := 1, bytes := 0,
        zero := [Value.tuple { toList := [Value.int IntKind.i64 (0), Value.bool false] }] },
    some { k := TK.func, size := 1, bytes := 8, zero := [Value.nilFunc] },
    some { k := TK.func, size := 1, bytes := 8, zero := [Value.nilFunc] },
    some { k := TK.func, size := 1, bytes := 8, zero := [Value.nilFunc] },
    some { k := TK.func, size := 1, bytes := 8, zero := [Value.nilFunc] },
    some { k := TK.func, size := 1, bytes := 8, zero := [Value.nilFunc] },
    some { k := TK.func, size := 1, bytes := 8, zero := [Value.nilFunc] },
    some { k := TK.func, size := 1, bytes := 8, zero := [Value.nilFunc] },
    some { k := TK.func, size := 1, bytes := 8, zero := [Value.nilFunc] },
    some { k := TK.func, size := 1, bytes := 8, zero := [Value.nilFunc] },
    some { k := TK.func, size := 1, bytes := 8, zero := [Value.nilFunc] },
    some { k := TK.func, size := 1, bytes := 8, zero := [Value.nilFunc] },
    some { k := TK.func, size := 1, bytes := 8, zero := [Value.nilFunc] },
    some { k := TK.func, size := 1, bytes := 8, zero := [Value.nilFunc] },
    some { k := TK.int IntKind.u64, size := 1, bytes := 8, zero := [Value.int IntKind.u64 (0)] },
    some { k := TK.func, size := 1, bytes := 8, zero := [Value.nilFunc] },
    some { k := TK.func, size := 1, bytes := 8, zero := [Value.nilFunc] },
    some
      { k := TK.struct [(0, 17), (1, 17), (2, 17), (3, 9)], size := 4, bytes := 40,
        zero := [Value.pointer none, Value.pointer none, Value.pointer none, Value.string ByteArray.empty] },
    some
      { k := TK.struct [(0, 17), (1, 17), (2, 17), (3, 9)], size := 4, bytes := 40,
        zero := [Value.pointer none, Value.pointer none, Value.pointer none, Value.string ByteArray.empty] },
    some { k := TK.arr 0 16, size := 0, bytes := 0, zero := [] },
    some { k := TK.struct [(0, 104)], size := 0, bytes := 0, zero := [] },
    some { k := TK.struct [(0, 104)], size := 0, bytes := 0, zero := [] },
    some { k := TK.int IntKind.u32, size := 1, bytes := 4, zero := [Value.int IntKind.u32 (0)] },
    some { k := TK.int IntKind.u8, size := 1, bytes := 1, zero := [Value.int IntKind.u8 (0)] },
    some { k := TK.int IntKind.u8, size := 1, bytes := 1, zero := [Value.int IntKind.u8 (0)] },
    some { k := TK.func, size := 1, bytes := 8, zero := [Value.nilFunc] },
    some { k := TK.ptr 5, size := 1, bytes := 8, zero := [Value.pointer none] },
    some { k := TK.int IntKind.i32, size := 1, bytes := 4, zero := [Value.int IntKind.i32 (0)] },
    some { k := TK.int IntKind.i32, size := 1, bytes := 4, zero := [Value.int IntKind.i32 (0)] },
    some
      {
        k :=
          TK.struct
            [(0, 12), (1, 12), (2, 107), (3, 108), (4, 5), (5, 5), (6, 109), (7, 110), (8, 111), (9, 112), (10, 113)],
        size := 11, bytes := 48,
        zero :=
          [Value.int IntKind.u64 (0), Value.int IntKind.u64 (0), Value.int IntKind.u32 (0),
            Value.int IntKind.u8 (0), Value.int IntKind.u8 (0), Value.int IntKind.u8 (0),
            Value.int IntKind.u8 (0), Value.nilFunc, Value.pointer none, Value.int IntKind.i32 (0),
            Value.int IntKind.i32 (0)] },
    some
      {
        k :=
          TK.struct
            [(0, 12), (1, 12), (2, 107), (3, 108), (4, 5), (5, 5), (6, 109), (7, 110), (8, 111), (9, 112), (10, 113)],
        size := 11, bytes := 48,
        zero :=
          [Value.int IntKind.u64 (0), Value.int IntKind.u64 (0), Value.int IntKind.u32 (0),
            Value.int IntKind.u8 (0), Value.int IntKind.u8 (0), Value.int IntKind.u8 (0),
            Value.int IntKind.u8 (0), Value.nilFunc, Value.pointer none, Value.int IntKind.i32 (0),
            Value.int IntKind.i32 (0)] },
    some { k := TK.other, size := 1, bytes := 8, zero := [Value.pointer none] }]
set_option maxRecDepth 100000 in
theorem Try.tab_ok : TabOk Try.prog Try.tab := tabOk_of (n := 117) (by kernel_rfl)
def Try.tbs : Tbs := ⟨Try.tab, 2, 87, [82]⟩
theorem Try.tbs_ok : TbsOk Try.prog Try.tbs := ⟨by kernel_rfl, Try.tab_ok, fns_of (by kernel_rfl)⟩
end Go.Proofs
