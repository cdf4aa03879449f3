/-
  What is proved: the texts that the claims share, part 3 of 3, each text behind the other. Conditions: none.
-/
import Derived.Test.YtaiialpdlobioaaGreatDoorRows
import Derived.WideKeyArr2
import Derived.Test.YtaiialpdlobioaaGreatDoorZw2
noncomputable section
namespace Go.Proofs
open Go.Sy
def Tryz.tab : Tab :=
  [some { k := TK.other, size := 1, bytes := 0, zero := [Value.tuple #[]] },
    some { k := TK.func, size := 1, bytes := 8, zero := [Value.nilFunc] },
    some { k := TK.int IntKind.i64, size := 1, bytes := 8, zero := [Value.int IntKind.i64 (0)] },
    some { k := TK.int IntKind.i64, size := 1, bytes := 8, zero := [Value.int IntKind.i64 (0)] },
    some { k := TK.bool, size := 1, bytes := 1, zero := [Value.bool false] },
    some { k := TK.int IntKind.u8, size := 1, bytes := 1, zero := [Value.int IntKind.u8 (0)] },
    some { k := TK.int IntKind.u8, size := 1, bytes := 1, zero := [Value.int IntKind.u8 (0)] },
    some
      { k := TK.struct [(0, 2), (1, 3), (2, 4), (3, 6)], size := 4, bytes := 24,
        zero :=
          [Value.int IntKind.i64 (0), Value.int IntKind.i64 (0), Value.bool false,
            Value.int IntKind.u8 (0)] },
    some
      { k := TK.struct [(0, 2), (1, 3), (2, 4), (3, 6)], size := 4, bytes := 24,
        zero :=
          [Value.int IntKind.i64 (0), Value.int IntKind.i64 (0), Value.bool false,
            Value.int IntKind.u8 (0)] },
    some { k := TK.string, size := 1, bytes := 16, zero := [Value.string ByteArray.empty] },
    some { k := TK.string, size := 1, bytes := 16, zero := [Value.string ByteArray.empty] },
    some { k := TK.string, size := 1, bytes := 16, zero := [Value.string ByteArray.empty] },
    some { k := TK.int IntKind.u64, size := 1, bytes := 8, zero := [Value.int IntKind.u64 (0)] },
    some
      { k := TK.struct [(0, 9), (1, 12)], size := 2, bytes := 24,
        zero := [Value.string ByteArray.empty, Value.int IntKind.u64 (0)] },
    some
      { k := TK.struct [(0, 9), (1, 12)], size := 2, bytes := 24,
        zero := [Value.string ByteArray.empty, Value.int IntKind.u64 (0)] },
    some { k := TK.ptr 509, size := 1, bytes := 8, zero := [Value.pointer none] },
    some { k := TK.ptr 512, size := 1, bytes := 8, zero := [Value.pointer none] },
    some { k := TK.ptr 519, size := 1, bytes := 8, zero := [Value.pointer none] },
    some { k := TK.struct [(0, 17)], size := 1, bytes := 8, zero := [Value.pointer none] },
    some { k := TK.struct [(0, 17)], size := 1, bytes := 8, zero := [Value.pointer none] },
    some { k := TK.other, size := 1, bytes := 16, zero := [Value.nilIface] },
    some { k := TK.int IntKind.i32, size := 1, bytes := 4, zero := [Value.int IntKind.i32 (0)] },
    some
      { k := TK.struct [(0, 3), (1, 3), (2, 3), (3, 3), (4, 3)], size := 5, bytes := 40,
        zero :=
          [Value.int IntKind.i64 (0), Value.int IntKind.i64 (0), Value.int IntKind.i64 (0),
            Value.int IntKind.i64 (0), Value.int IntKind.i64 (0)] },
    some
      { k := TK.struct [(0, 3), (1, 3), (2, 3), (3, 3), (4, 3)], size := 5, bytes := 40,
        zero :=
          [Value.int IntKind.i64 (0), Value.int IntKind.i64 (0), Value.int IntKind.i64 (0),
            Value.int IntKind.i64 (0), Value.int IntKind.i64 (0)] },
    some { k := TK.slice 3, size := 1, bytes := 24, zero := [Value.slice none 0 0] },
    some
      { k := TK.struct [(0, 3), (1, 3), (2, 3), (3, 3), (4, 23), (9, 24)], size := 10, bytes := 96,
        zero :=
          [Value.int IntKind.i64 (0), Value.int IntKind.i64 (0), Value.int IntKind.i64 (0),
            Value.int IntKind.i64 (0), Value.int IntKind.i64 (0), Value.int IntKind.i64 (0),
            Value.int IntKind.i64 (0), Value.int IntKind.i64 (0), Value.int IntKind.i64 (0),
            Value.slice none 0 0] },
    some
      { k := TK.struct [(0, 3), (1, 3), (2, 3), (3, 3), (4, 23), (9, 24)], size := 10, bytes := 96,
        zero :=
          [Value.int IntKind.i64 (0), Value.int IntKind.i64 (0), Value.int IntKind.i64 (0),
            Value.int IntKind.i64 (0), Value.int IntKind.i64 (0), Value.int IntKind.i64 (0),
            Value.int IntKind.i64 (0), Value.int IntKind.i64 (0), Value.int IntKind.i64 (0),
            Value.slice none 0 0] },
    some { k := TK.func, size := 1, bytes := 8, zero := [Value.nilFunc] },
    some { k := TK.ptr 44, size := 1, bytes := 8, zero := [Value.pointer none] },
    some { k := TK.int IntKind.i64, size := 1, bytes := 8, zero := [Value.int IntKind.i64 (0)] },
    some { k := TK.func, size := 1, bytes := 8, zero := [Value.nilFunc] },
    some { k := TK.func, size := 1, bytes := 8, zero := [Value.nilFunc] },
    some { k := TK.ptr 120, size := 1, bytes := 8, zero := [Value.pointer none] },
    some { k := TK.func, size := 1, bytes := 8, zero := [Value.nilFunc] },
    some { k := TK.slice 124, size := 1, bytes := 24, zero := [Value.slice none 0 0] },
    some { k := TK.func, size := 1, bytes := 8, zero := [Value.nilFunc] },
    some { k := TK.slice 73, size := 1, bytes := 24, zero := [Value.slice none 0 0] },
    some { k := TK.func, size := 1, bytes := 8, zero := [Value.nilFunc] },
    some { k := TK.slice 23, size := 1, bytes := 24, zero := [Value.slice none 0 0] },
    some { k := TK.func, size := 1, bytes := 8, zero := [Value.nilFunc] },
    some { k := TK.slice 32, size := 1, bytes := 24, zero := [Value.slice none 0 0] },
    some { k := TK.ptr 141, size := 1, bytes := 8, zero := [Value.pointer none] },
    some { k := TK.ptr 144, size := 1, bytes := 8, zero := [Value.pointer none] },
    some
      { k := TK.struct [(0, 40), (1, 41), (2, 42), (3, 36), (4, 38)], size := 5, bytes := 88,
        zero :=
          [Value.slice none 0 0, Value.pointer none, Value.pointer none, Value.slice none 0 0, Value.slice none 0 0] },
    some
      { k := TK.struct [(0, 40), (1, 41), (2, 42), (3, 36), (4, 38)], size := 5, bytes := 88,
        zero :=
          [Value.slice none 0 0, Value.pointer none, Value.pointer none, Value.slice none 0 0, Value.slice none 0 0] },
    some
      { k := TK.other, size := 1, bytes := 0,
        zero := [Value.tuple { toList := [Value.pointer none, Value.int IntKind.i64 (0)] }] },
    some { k := TK.func, size := 1, bytes := 8, zero := [Value.nilFunc] },
    some { k := TK.func, size := 1, bytes := 8, zero := [Value.nilFunc] },
    some
      { k := TK.other, size := 1, bytes := 0,
        zero := [Value.tuple { toList := [Value.int IntKind.i64 (0), Value.bool false] }] },
    some { k := TK.func, size := 1, bytes := 8, zero := [Value.nilFunc] },
    some { k := TK.func, size := 1, bytes := 8, zero := [Value.nilFunc] },
    some { k := TK.func, size := 1, bytes := 8, zero := [Value.nilFunc] },
    some { k := TK.func, size := 1, bytes := 8, zero := [Value.nilFunc] },
    some { k := TK.func, size := 1, bytes := 8, zero := [Value.nilFunc] },
    some { k := TK.ptr 58, size := 1, bytes := 8, zero := [Value.pointer none] },
    some
      { k := TK.other, size := 1, bytes := 0,
        zero :=
          [Value.tuple { toList := [Value.string ByteArray.empty, Value.int IntKind.i64 (0)] }] },
    some { k := TK.func, size := 1, bytes := 8, zero := [Value.nilFunc] },
    some
      { k := TK.struct [(0, 4), (1, 28), (2, 3)], size := 3, bytes := 24,
        zero := [Value.bool false, Value.pointer none, Value.int IntKind.i64 (0)] },
    some
      { k := TK.struct [(0, 4), (1, 28), (2, 3)], size := 3, bytes := 24,
        zero := [Value.bool false, Value.pointer none, Value.int IntKind.i64 (0)] },
    some { k := TK.func, size := 1, bytes := 8, zero := [Value.nilFunc] },
    some { k := TK.slice 5, size := 1, bytes := 24, zero := [Value.slice none 0 0] },
    some { k := TK.func, size := 1, bytes := 8, zero := [Value.nilFunc] },
    some
      { k := TK.other, size := 1, bytes := 0,
        zero :=
          [Value.tuple
              {
                toList :=
                  [Value.agg
                      {
                        toList :=
                          [Value.int IntKind.i64 (0), Value.int IntKind.i64 (0),
                            Value.int IntKind.i64 (0), Value.int IntKind.i64 (0),
                            Value.int IntKind.i64 (0), Value.int IntKind.i64 (0),
                            Value.int IntKind.i64 (0), Value.int IntKind.i64 (0),
                            Value.int IntKind.i64 (0), Value.slice none 0 0] },
                    Value.bool false] }] },
    some { k := TK.func, size := 1, bytes := 8, zero := [Value.nilFunc] },
    some { k := TK.func, size := 1, bytes := 8, zero := [Value.nilFunc] },
    some
      { k := TK.other, size := 1, bytes := 0,
        zero := [Value.tuple { toList := [Value.string ByteArray.empty, Value.bool false] }] },
    some { k := TK.func, size := 1, bytes := 8, zero := [Value.nilFunc] },
    some { k := TK.func, size := 1, bytes := 8, zero := [Value.nilFunc] },
    some { k := TK.func, size := 1, bytes := 8, zero := [Value.nilFunc] },
    some { k := TK.func, size := 1, bytes := 8, zero := [Value.nilFunc] },
    some
      { k := TK.struct [(0, 3), (1, 3), (2, 3)], size := 3, bytes := 24,
        zero :=
          [Value.int IntKind.i64 (0), Value.int IntKind.i64 (0),
            Value.int IntKind.i64 (0)] },
    some
      { k := TK.struct [(0, 3), (1, 3), (2, 3)], size := 3, bytes := 24,
        zero :=
          [Value.int IntKind.i64 (0), Value.int IntKind.i64 (0),
            Value.int IntKind.i64 (0)] },
    some
      { k := TK.struct [(0, 3), (1, 3), (2, 71)], size := 5, bytes := 40,
        zero :=
          [Value.int IntKind.i64 (0), Value.int IntKind.i64 (0), Value.int IntKind.i64 (0),
            Value.int IntKind.i64 (0), Value.int IntKind.i64 (0)] },
    some
      { k := TK.struct [(0, 3), (1, 3), (2, 71)], size := 5, bytes := 40,
        zero :=
          [Value.int IntKind.i64 (0), Value.int IntKind.i64 (0), Value.int IntKind.i64 (0),
            Value.int IntKind.i64 (0), Value.int IntKind.i64 (0)] },
    some { k := TK.func, size := 1, bytes := 8, zero := [Value.nilFunc] },
    some { k := TK.func, size := 1, bytes := 8, zero := [Value.nilFunc] },
    some { k := TK.func, size := 1, bytes := 8, zero := [Value.nilFunc] },
    some { k := TK.func, size := 1, bytes := 8, zero := [Value.nilFunc] },
    some { k := TK.func, size := 1, bytes := 8, zero := [Value.nilFunc] },
    some { k := TK.func, size := 1, bytes := 8, zero := [Value.nilFunc] },
    some { k := TK.func, size := 1, bytes := 8, zero := [Value.nilFunc] },
    some { k := TK.func, size := 1, bytes := 8, zero := [Value.nilFunc] },
    some { k := TK.func, size := 1, bytes := 8, zero := [Value.nilFunc] },
    some
      { k := TK.other, size := 1, bytes := 0,
        zero := [Value.tuple { toList := [Value.pointer none, Value.int IntKind.i64 (0)] }] },
    some { k := TK.func, size := 1, bytes := 8, zero := [Value.nilFunc] },
    some { k := TK.func, size := 1, bytes := 8, zero := [Value.nilFunc] },
    some
      { k := TK.other, size := 1, bytes := 0,
        zero := [Value.tuple { toList := [Value.pointer none, Value.int IntKind.i64 (0)] }] },
    some { k := TK.func, size := 1, bytes := 8, zero := [Value.nilFunc] },
    some { k := TK.func, size := 1, bytes := 8, zero := [Value.nilFunc] },
    some { k := TK.func, size := 1, bytes := 8, zero := [Value.nilFunc] },
    some { k := TK.func, size := 1, bytes := 8, zero := [Value.nilFunc] },
    some { k := TK.slice 26, size := 1, bytes := 24, zero := [Value.slice none 0 0] },
    some { k := TK.func, size := 1, bytes := 8, zero := [Value.nilFunc] },
    some { k := TK.func, size := 1, bytes := 8, zero := [Value.nilFunc] },
    some { k := TK.slice 9, size := 1, bytes := 24, zero := [Value.slice none 0 0] },
    some { k := TK.func, size := 1, bytes := 8, zero := [Value.nilFunc] },
    some
      { k := TK.other, size := 1, bytes := 0,
        zero := [Value.tuple { toList := [Value.slice none 0 0, Value.bool false] }] },
    some { k := TK.func, size := 1, bytes := 8, zero := [Value.nilFunc] },
    some
      { k := TK.other, size := 1, bytes := 0,
        zero :=
          [Value.tuple
              {
                toList :=
                  [Value.string ByteArray.empty, Value.int IntKind.i64 (0), Value.bool false] }] },
    some { k := TK.func, size := 1, bytes := 8, zero := [Value.nilFunc] },
    some { k := TK.func, size := 1, bytes := 8, zero := [Value.nilFunc] },
    some
      { k := TK.other, size := 1, bytes := 0,
        zero :=
          [Value.tuple { toList := [Value.string ByteArray.empty, Value.int IntKind.i64 (0)] }] },
    some { k := TK.func, size := 1, bytes := 8, zero := [Value.nilFunc] },
    some { k := TK.func, size := 1, bytes := 8, zero := [Value.nilFunc] },
    some { k := TK.func, size := 1, bytes := 8, zero := [Value.nilFunc] },
    some
      { k := TK.other, size := 1, bytes := 0,
        zero := [Value.tuple { toList := [Value.int IntKind.i64 (0), Value.int IntKind.i64 (0)] }] },
    some { k := TK.func, size := 1, bytes := 8, zero := [Value.nilFunc] },
    some { k := TK.func, size := 1, bytes := 8, zero := [Value.nilFunc] },
    some { k := TK.func, size := 1, bytes := 8, zero := [Value.nilFunc] },
    some { k := TK.func, size := 1, bytes := 8, zero := [Value.nilFunc] },
    some { k := TK.ptr 173, size := 1, bytes := 8, zero := [Value.pointer none] },
    some { k := TK.ptr 203, size := 1, bytes := 8, zero := [Value.pointer none] },
    some { k := TK.ptr 218, size := 1, bytes := 8, zero := [Value.pointer none] },
    some { k := TK.ptr 269, size := 1, bytes := 8, zero := [Value.pointer none] },
    some { k := TK.ptr 254, size := 1, bytes := 8, zero := [Value.pointer none] },
    some
      { k := TK.arr 4 114, size := 4, bytes := 32,
        zero := [Value.pointer none, Value.pointer none, Value.pointer none, Value.pointer none] },
    some
      { k := TK.arr 4 110, size := 4, bytes := 32,
        zero := [Value.pointer none, Value.pointer none, Value.pointer none, Value.pointer none] },
    some
      { k := TK.arr 4 3, size := 4, bytes := 32,
        zero :=
          [Value.int IntKind.i64 (0), Value.int IntKind.i64 (0), Value.int IntKind.i64 (0),
            Value.int IntKind.i64 (0)] },
    some { k := TK.ptr 200, size := 1, bytes := 8, zero := [Value.pointer none] },
    some
      {
        k :=
          TK.struct
            [(0, 3), (1, 3), (2, 111), (3, 3), (4, 112), (5, 113), (6, 115), (10, 116), (14, 117), (18, 118), (19, 34),
              (20, 36)],
        size := 21, bytes := 200,
        zero :=
          [Value.int IntKind.i64 (0), Value.int IntKind.i64 (0), Value.pointer none,
            Value.int IntKind.i64 (0), Value.pointer none, Value.pointer none, Value.pointer none,
            Value.pointer none, Value.pointer none, Value.pointer none, Value.pointer none, Value.pointer none,
            Value.pointer none, Value.pointer none, Value.int IntKind.i64 (0),
            Value.int IntKind.i64 (0), Value.int IntKind.i64 (0), Value.int IntKind.i64 (0),
            Value.pointer none, Value.slice none 0 0, Value.slice none 0 0] },
    some
      {
        k :=
          TK.struct
            [(0, 3), (1, 3), (2, 111), (3, 3), (4, 112), (5, 113), (6, 115), (10, 116), (14, 117), (18, 118), (19, 34),
              (20, 36)],
        size := 21, bytes := 200,
        zero :=
          [Value.int IntKind.i64 (0), Value.int IntKind.i64 (0), Value.pointer none,
            Value.int IntKind.i64 (0), Value.pointer none, Value.pointer none, Value.pointer none,
            Value.pointer none, Value.pointer none, Value.pointer none, Value.pointer none, Value.pointer none,
            Value.pointer none, Value.pointer none, Value.int IntKind.i64 (0),
            Value.int IntKind.i64 (0), Value.int IntKind.i64 (0), Value.int IntKind.i64 (0),
            Value.pointer none, Value.slice none 0 0, Value.slice none 0 0] },
    some { k := TK.func, size := 1, bytes := 8, zero := [Value.nilFunc] },
    some { k := TK.slice 154, size := 1, bytes := 24, zero := [Value.slice none 0 0] },
    some
      {
        k :=
          TK.struct
            [(0, 3), (1, 3), (2, 3), (3, 3), (4, 3), (5, 3), (6, 3), (7, 3), (8, 3), (9, 122), (10, 23), (15, 71)],
        size := 18, bytes := 160,
        zero :=
          [Value.int IntKind.i64 (0), Value.int IntKind.i64 (0), Value.int IntKind.i64 (0),
            Value.int IntKind.i64 (0), Value.int IntKind.i64 (0), Value.int IntKind.i64 (0),
            Value.int IntKind.i64 (0), Value.int IntKind.i64 (0), Value.int IntKind.i64 (0),
            Value.slice none 0 0, Value.int IntKind.i64 (0), Value.int IntKind.i64 (0),
            Value.int IntKind.i64 (0), Value.int IntKind.i64 (0), Value.int IntKind.i64 (0),
            Value.int IntKind.i64 (0), Value.int IntKind.i64 (0),
            Value.int IntKind.i64 (0)] },
    some
      {
        k :=
          TK.struct
            [(0, 3), (1, 3), (2, 3), (3, 3), (4, 3), (5, 3), (6, 3), (7, 3), (8, 3), (9, 122), (10, 23), (15, 71)],
        size := 18, bytes := 160,
        zero :=
          [Value.int IntKind.i64 (0), Value.int IntKind.i64 (0), Value.int IntKind.i64 (0),
            Value.int IntKind.i64 (0), Value.int IntKind.i64 (0), Value.int IntKind.i64 (0),
            Value.int IntKind.i64 (0), Value.int IntKind.i64 (0), Value.int IntKind.i64 (0),
            Value.slice none 0 0, Value.int IntKind.i64 (0), Value.int IntKind.i64 (0),
            Value.int IntKind.i64 (0), Value.int IntKind.i64 (0), Value.int IntKind.i64 (0),
            Value.int IntKind.i64 (0), Value.int IntKind.i64 (0),
            Value.int IntKind.i64 (0)] },
    some
      { k := TK.other, size := 1, bytes := 0,
        zero :=
          [Value.tuple
              {
                toList :=
                  [Value.agg
                      {
                        toList :=
                          [Value.int IntKind.i64 (0), Value.int IntKind.i64 (0),
                            Value.int IntKind.i64 (0), Value.int IntKind.i64 (0),
                            Value.int IntKind.i64 (0), Value.int IntKind.i64 (0),
                            Value.int IntKind.i64 (0), Value.int IntKind.i64 (0),
                            Value.int IntKind.i64 (0), Value.slice none 0 0,
                            Value.int IntKind.i64 (0), Value.int IntKind.i64 (0),
                            Value.int IntKind.i64 (0), Value.int IntKind.i64 (0),
                            Value.int IntKind.i64 (0), Value.int IntKind.i64 (0),
                            Value.int IntKind.i64 (0), Value.int IntKind.i64 (0)] },
                    Value.bool false] }] },
    some { k := TK.func, size := 1, bytes := 8, zero := [Value.nilFunc] },
    some { k := TK.func, size := 1, bytes := 8, zero := [Value.nilFunc] },
    some { k := TK.func, size := 1, bytes := 8, zero := [Value.nilFunc] },
    some
      { k := TK.other, size := 1, bytes := 0,
        zero :=
          [Value.tuple { toList := [Value.slice none 0 0, Value.slice none 0 0, Value.int IntKind.i64 (0)] }] },
    some { k := TK.func, size := 1, bytes := 8, zero := [Value.nilFunc] },
    some { k := TK.func, size := 1, bytes := 8, zero := [Value.nilFunc] },
    some { k := TK.func, size := 1, bytes := 8, zero := [Value.nilFunc] },
    some { k := TK.func, size := 1, bytes := 8, zero := [Value.nilFunc] },
    some { k := TK.func, size := 1, bytes := 8, zero := [Value.nilFunc] },
    some { k := TK.func, size := 1, bytes := 8, zero := [Value.nilFunc] },
    some { k := TK.func, size := 1, bytes := 8, zero := [Value.nilFunc] },
    some
      { k := TK.arr 7 3, size := 7, bytes := 56,
        zero :=
          [Value.int IntKind.i64 (0), Value.int IntKind.i64 (0), Value.int IntKind.i64 (0),
            Value.int IntKind.i64 (0), Value.int IntKind.i64 (0), Value.int IntKind.i64 (0),
            Value.int IntKind.i64 (0)] },
    some
      { k := TK.struct [(0, 3), (1, 137)], size := 8, bytes := 64,
        zero :=
          [Value.int IntKind.i64 (0), Value.int IntKind.i64 (0), Value.int IntKind.i64 (0),
            Value.int IntKind.i64 (0), Value.int IntKind.i64 (0), Value.int IntKind.i64 (0),
            Value.int IntKind.i64 (0), Value.int IntKind.i64 (0)] },
    some
      { k := TK.struct [(0, 3), (1, 137)], size := 8, bytes := 64,
        zero :=
          [Value.int IntKind.i64 (0), Value.int IntKind.i64 (0), Value.int IntKind.i64 (0),
            Value.int IntKind.i64 (0), Value.int IntKind.i64 (0), Value.int IntKind.i64 (0),
            Value.int IntKind.i64 (0), Value.int IntKind.i64 (0)] },
    some
      { k := TK.struct [(0, 139), (8, 3)], size := 9, bytes := 72,
        zero :=
          [Value.int IntKind.i64 (0), Value.int IntKind.i64 (0), Value.int IntKind.i64 (0),
            Value.int IntKind.i64 (0), Value.int IntKind.i64 (0), Value.int IntKind.i64 (0),
            Value.int IntKind.i64 (0), Value.int IntKind.i64 (0),
            Value.int IntKind.i64 (0)] },
    some
      { k := TK.struct [(0, 139), (8, 3)], size := 9, bytes := 72,
        zero :=
          [Value.int IntKind.i64 (0), Value.int IntKind.i64 (0), Value.int IntKind.i64 (0),
            Value.int IntKind.i64 (0), Value.int IntKind.i64 (0), Value.int IntKind.i64 (0),
            Value.int IntKind.i64 (0), Value.int IntKind.i64 (0),
            Value.int IntKind.i64 (0)] },
    some { k := TK.func, size := 1, bytes := 8, zero := [Value.nilFunc] },
    some { k := TK.struct [(0, 4), (1, 34)], size := 2, bytes := 32, zero := [Value.bool false, Value.slice none 0 0] },
    some { k := TK.struct [(0, 4), (1, 34)], size := 2, bytes := 32, zero := [Value.bool false, Value.slice none 0 0] },
    some
      { k := TK.other, size := 1, bytes := 0,
        zero := [Value.tuple { toList := [Value.pointer none, Value.int IntKind.i64 (0)] }] },
    some { k := TK.func, size := 1, bytes := 8, zero := [Value.nilFunc] },
    some { k := TK.func, size := 1, bytes := 8, zero := [Value.nilFunc] },
    some
      { k := TK.struct [(0, 3), (1, 3), (2, 122), (3, 3)], size := 4, bytes := 48,
        zero :=
          [Value.int IntKind.i64 (0), Value.int IntKind.i64 (0), Value.slice none 0 0,
            Value.int IntKind.i64 (0)] },
    some
      { k := TK.struct [(0, 3), (1, 3), (2, 122), (3, 3)], size := 4, bytes := 48,
        zero :=
          [Value.int IntKind.i64 (0), Value.int IntKind.i64 (0), Value.slice none 0 0,
            Value.int IntKind.i64 (0)] },
    some
      { k := TK.other, size := 1, bytes := 0,
        zero :=
          [Value.tuple
              {
                toList :=
                  [Value.agg
                      {
                        toList :=
                          [Value.int IntKind.i64 (0), Value.int IntKind.i64 (0), Value.slice none 0 0,
                            Value.int IntKind.i64 (0)] },
                    Value.int IntKind.i64 (0)] }] },
    some { k := TK.func, size := 1, bytes := 8, zero := [Value.nilFunc] },
    some { k := TK.func, size := 1, bytes := 8, zero := [Value.nilFunc] },
    some
      { k := TK.struct [(0, 3), (1, 23)], size := 6, bytes := 48,
        zero :=
          [Value.int IntKind.i64 (0), Value.int IntKind.i64 (0), Value.int IntKind.i64 (0),
            Value.int IntKind.i64 (0), Value.int IntKind.i64 (0),
            Value.int IntKind.i64 (0)] },
    some
      { k := TK.struct [(0, 3), (1, 23)], size := 6, bytes := 48,
        zero :=
          [Value.int IntKind.i64 (0), Value.int IntKind.i64 (0), Value.int IntKind.i64 (0),
            Value.int IntKind.i64 (0), Value.int IntKind.i64 (0),
            Value.int IntKind.i64 (0)] },
    some { k := TK.ptr 157, size := 1, bytes := 8, zero := [Value.pointer none] },
    some
      { k := TK.struct [(0, 155), (1, 60)], size := 2, bytes := 32, zero := [Value.pointer none, Value.slice none 0 0] },
    some
      { k := TK.struct [(0, 155), (1, 60)], size := 2, bytes := 32, zero := [Value.pointer none, Value.slice none 0 0] },
    some { k := TK.func, size := 1, bytes := 8, zero := [Value.nilFunc] },
    some { k := TK.func, size := 1, bytes := 8, zero := [Value.nilFunc] },
    some { k := TK.func, size := 1, bytes := 8, zero := [Value.nilFunc] },
    some { k := TK.func, size := 1, bytes := 8, zero := [Value.nilFunc] },
    some { k := TK.other, size := 1, bytes := 16, zero := [Value.nilIface] },
    some { k := TK.other, size := 1, bytes := 16, zero := [Value.nilIface] },
    some
      { k := TK.other, size := 1, bytes := 0,
        zero := [Value.tuple { toList := [Value.int IntKind.i64 (0), Value.nilIface] }] },
    some { k := TK.func, size := 1, bytes := 8, zero := [Value.nilFunc] },
    some { k := TK.func, size := 1, bytes := 8, zero := [Value.nilFunc] },
    some { k := TK.func, size := 1, bytes := 8, zero := [Value.nilFunc] },
    some { k := TK.func, size := 1, bytes := 8, zero := [Value.nilFunc] },
    some
      { k := TK.arr 12 9, size := 12, bytes := 192,
        zero :=
          [Value.string ByteArray.empty, Value.string ByteArray.empty,
            Value.string ByteArray.empty, Value.string ByteArray.empty,
            Value.string ByteArray.empty, Value.string ByteArray.empty,
            Value.string ByteArray.empty, Value.string ByteArray.empty,
            Value.string ByteArray.empty, Value.string ByteArray.empty,
            Value.string ByteArray.empty, Value.string ByteArray.empty] },
    some
      { k := TK.arr 12 3, size := 12, bytes := 96,
        zero :=
          [Value.int IntKind.i64 (0), Value.int IntKind.i64 (0), Value.int IntKind.i64 (0),
            Value.int IntKind.i64 (0), Value.int IntKind.i64 (0), Value.int IntKind.i64 (0),
            Value.int IntKind.i64 (0), Value.int IntKind.i64 (0), Value.int IntKind.i64 (0),
            Value.int IntKind.i64 (0), Value.int IntKind.i64 (0),
            Value.int IntKind.i64 (0)] },
    some { k := TK.func, size := 1, bytes := 8, zero := [Value.nilFunc] },
    some
      { k := TK.struct [(0, 3), (1, 3), (2, 3), (3, 3), (4, 137), (11, 137), (18, 4), (19, 3)], size := 20, bytes := 160,
        zero :=
          [Value.int IntKind.i64 (0), Value.int IntKind.i64 (0), Value.int IntKind.i64 (0),
            Value.int IntKind.i64 (0), Value.int IntKind.i64 (0), Value.int IntKind.i64 (0),
            Value.int IntKind.i64 (0), Value.int IntKind.i64 (0), Value.int IntKind.i64 (0),
            Value.int IntKind.i64 (0), Value.int IntKind.i64 (0), Value.int IntKind.i64 (0),
            Value.int IntKind.i64 (0), Value.int IntKind.i64 (0), Value.int IntKind.i64 (0),
            Value.int IntKind.i64 (0), Value.int IntKind.i64 (0), Value.int IntKind.i64 (0),
            Value.bool false, Value.int IntKind.i64 (0)] },
    some
      { k := TK.struct [(0, 3), (1, 3), (2, 3), (3, 3), (4, 137), (11, 137), (18, 4), (19, 3)], size := 20, bytes := 160,
        zero :=
          [Value.int IntKind.i64 (0), Value.int IntKind.i64 (0), Value.int IntKind.i64 (0),
            Value.int IntKind.i64 (0), Value.int IntKind.i64 (0), Value.int IntKind.i64 (0),
            Value.int IntKind.i64 (0), Value.int IntKind.i64 (0), Value.int IntKind.i64 (0),
            Value.int IntKind.i64 (0), Value.int IntKind.i64 (0), Value.int IntKind.i64 (0),
            Value.int IntKind.i64 (0), Value.int IntKind.i64 (0), Value.int IntKind.i64 (0),
            Value.int IntKind.i64 (0), Value.int IntKind.i64 (0), Value.int IntKind.i64 (0),
            Value.bool false, Value.int IntKind.i64 (0)] },
    some { k := TK.func, size := 1, bytes := 8, zero := [Value.nilFunc] },
    some { k := TK.func, size := 1, bytes := 8, zero := [Value.nilFunc] },
    some { k := TK.func, size := 1, bytes := 8, zero := [Value.nilFunc] },
    some { k := TK.func, size := 1, bytes := 8, zero := [Value.nilFunc] },
    some { k := TK.func, size := 1, bytes := 8, zero := [Value.nilFunc] },
    some { k := TK.func, size := 1, bytes := 8, zero := [Value.nilFunc] },
    some
      { k := TK.other, size := 1, bytes := 0,
        zero :=
          [Value.tuple
              {
                toList :=
                  [Value.agg
                      {
                        toList :=
                          [Value.int IntKind.i64 (0), Value.int IntKind.i64 (0),
                            Value.int IntKind.i64 (0)] },
                    Value.bool false] }] },
    some { k := TK.func, size := 1, bytes := 8, zero := [Value.nilFunc] },
    some { k := TK.func, size := 1, bytes := 8, zero := [Value.nilFunc] },
    some { k := TK.func, size := 1, bytes := 8, zero := [Value.nilFunc] },
    some { k := TK.func, size := 1, bytes := 8, zero := [Value.nilFunc] },
    some { k := TK.func, size := 1, bytes := 8, zero := [Value.nilFunc] },
    some
      { k := TK.other, size := 1, bytes := 0,
        zero := [Value.tuple { toList := [Value.int IntKind.i64 (0), Value.int IntKind.i64 (0)] }] },
    some { k := TK.func, size := 1, bytes := 8, zero := [Value.nilFunc] },
    some { k := TK.func, size := 1, bytes := 8, zero := [Value.nilFunc] },
    some { k := TK.slice 233, size := 1, bytes := 24, zero := [Value.slice none 0 0] },
    some
      { k := TK.struct [(0, 3), (1, 3), (2, 3), (3, 3), (4, 3), (5, 3), (6, 122), (7, 189)], size := 8, bytes := 96,
        zero :=
          [Value.int IntKind.i64 (0), Value.int IntKind.i64 (0), Value.int IntKind.i64 (0),
            Value.int IntKind.i64 (0), Value.int IntKind.i64 (0), Value.int IntKind.i64 (0),
            Value.slice none 0 0, Value.slice none 0 0] },
    some
      { k := TK.struct [(0, 3), (1, 3), (2, 3), (3, 3), (4, 3), (5, 3), (6, 122), (7, 189)], size := 8, bytes := 96,
        zero :=
          [Value.int IntKind.i64 (0), Value.int IntKind.i64 (0), Value.int IntKind.i64 (0),
            Value.int IntKind.i64 (0), Value.int IntKind.i64 (0), Value.int IntKind.i64 (0),
            Value.slice none 0 0, Value.slice none 0 0] },
    some
      { k := TK.other, size := 1, bytes := 0,
        zero := [Value.tuple { toList := [Value.pointer none, Value.int IntKind.i64 (0)] }] },
    some { k := TK.func, size := 1, bytes := 8, zero := [Value.nilFunc] },
    some { k := TK.func, size := 1, bytes := 8, zero := [Value.nilFunc] },
    some
      { k := TK.struct [(0, 3), (1, 3)], size := 2, bytes := 16,
        zero := [Value.int IntKind.i64 (0), Value.int IntKind.i64 (0)] },
    some
      { k := TK.struct [(0, 3), (1, 3)], size := 2, bytes := 16,
        zero := [Value.int IntKind.i64 (0), Value.int IntKind.i64 (0)] },
    some { k := TK.func, size := 1, bytes := 8, zero := [Value.nilFunc] },
    some { k := TK.map 196 24, size := 1, bytes := 8, zero := [Value.map none] },
    some { k := TK.struct [(0, 198)], size := 1, bytes := 8, zero := [Value.map none] },
    some { k := TK.struct [(0, 198)], size := 1, bytes := 8, zero := [Value.map none] },
    some { k := TK.slice 206, size := 1, bytes := 24, zero := [Value.slice none 0 0] },
    some
      { k := TK.struct [(0, 3), (1, 3), (2, 4), (3, 201), (4, 27), (5, 24)], size := 6, bytes := 80,
        zero :=
          [Value.int IntKind.i64 (0), Value.int IntKind.i64 (0), Value.bool false,
            Value.slice none 0 0, Value.nilFunc, Value.slice none 0 0] },
    some
      { k := TK.struct [(0, 3), (1, 3), (2, 4), (3, 201), (4, 27), (5, 24)], size := 6, bytes := 80,
        zero :=
          [Value.int IntKind.i64 (0), Value.int IntKind.i64 (0), Value.bool false,
            Value.slice none 0 0, Value.nilFunc, Value.slice none 0 0] },
    some { k := TK.ptr 206, size := 1, bytes := 8, zero := [Value.pointer none] },
    some
      { k := TK.struct [(0, 9), (1, 9), (2, 3)], size := 3, bytes := 40,
        zero :=
          [Value.string ByteArray.empty, Value.string ByteArray.empty,
            Value.int IntKind.i64 (0)] },
    some
      { k := TK.struct [(0, 9), (1, 9), (2, 3)], size := 3, bytes := 40,
        zero :=
          [Value.string ByteArray.empty, Value.string ByteArray.empty,
            Value.int IntKind.i64 (0)] },
    some
      { k := TK.other, size := 1, bytes := 0,
        zero := [Value.tuple { toList := [Value.pointer none, Value.int IntKind.i64 (0)] }] },
    some { k := TK.func, size := 1, bytes := 8, zero := [Value.nilFunc] },
    some { k := TK.func, size := 1, bytes := 8, zero := [Value.nilFunc] },
    some { k := TK.func, size := 1, bytes := 8, zero := [Value.nilFunc] },
    some { k := TK.func, size := 1, bytes := 8, zero := [Value.nilFunc] },
    some { k := TK.func, size := 1, bytes := 8, zero := [Value.nilFunc] },
    some
      { k := TK.arr 4 149, size := 16, bytes := 192,
        zero :=
          [Value.int IntKind.i64 (0), Value.int IntKind.i64 (0), Value.slice none 0 0,
            Value.int IntKind.i64 (0), Value.int IntKind.i64 (0), Value.int IntKind.i64 (0),
            Value.slice none 0 0, Value.int IntKind.i64 (0), Value.int IntKind.i64 (0),
            Value.int IntKind.i64 (0), Value.slice none 0 0, Value.int IntKind.i64 (0),
            Value.int IntKind.i64 (0), Value.int IntKind.i64 (0), Value.slice none 0 0,
            Value.int IntKind.i64 (0)] },
    some
      { k := TK.struct [(0, 213), (16, 189)], size := 17, bytes := 216,
        zero :=
          [Value.int IntKind.i64 (0), Value.int IntKind.i64 (0), Value.slice none 0 0,
            Value.int IntKind.i64 (0), Value.int IntKind.i64 (0), Value.int IntKind.i64 (0),
            Value.slice none 0 0, Value.int IntKind.i64 (0), Value.int IntKind.i64 (0),
            Value.int IntKind.i64 (0), Value.slice none 0 0, Value.int IntKind.i64 (0),
            Value.int IntKind.i64 (0), Value.int IntKind.i64 (0), Value.slice none 0 0,
            Value.int IntKind.i64 (0), Value.slice none 0 0] },
    some
      { k := TK.struct [(0, 213), (16, 189)], size := 17, bytes := 216,
        zero :=
          [Value.int IntKind.i64 (0), Value.int IntKind.i64 (0), Value.slice none 0 0,
            Value.int IntKind.i64 (0), Value.int IntKind.i64 (0), Value.int IntKind.i64 (0),
            Value.slice none 0 0, Value.int IntKind.i64 (0), Value.int IntKind.i64 (0),
            Value.int IntKind.i64 (0), Value.slice none 0 0, Value.int IntKind.i64 (0),
            Value.int IntKind.i64 (0), Value.int IntKind.i64 (0), Value.slice none 0 0,
            Value.int IntKind.i64 (0), Value.slice none 0 0] },
    some { k := TK.ptr 302, size := 1, bytes := 8, zero := [Value.pointer none] },
    some
      { k := TK.struct [(0, 216), (1, 215), (18, 3), (19, 4)], size := 20, bytes := 240,
        zero :=
          [Value.pointer none, Value.int IntKind.i64 (0), Value.int IntKind.i64 (0),
            Value.slice none 0 0, Value.int IntKind.i64 (0), Value.int IntKind.i64 (0),
            Value.int IntKind.i64 (0), Value.slice none 0 0, Value.int IntKind.i64 (0),
            Value.int IntKind.i64 (0), Value.int IntKind.i64 (0), Value.slice none 0 0,
            Value.int IntKind.i64 (0), Value.int IntKind.i64 (0), Value.int IntKind.i64 (0),
            Value.slice none 0 0, Value.int IntKind.i64 (0), Value.slice none 0 0,
            Value.int IntKind.i64 (0), Value.bool false] },
    some
      { k := TK.struct [(0, 216), (1, 215), (18, 3), (19, 4)], size := 20, bytes := 240,
        zero :=
          [Value.pointer none, Value.int IntKind.i64 (0), Value.int IntKind.i64 (0),
            Value.slice none 0 0, Value.int IntKind.i64 (0), Value.int IntKind.i64 (0),
            Value.int IntKind.i64 (0), Value.slice none 0 0, Value.int IntKind.i64 (0),
            Value.int IntKind.i64 (0), Value.int IntKind.i64 (0), Value.slice none 0 0,
            Value.int IntKind.i64 (0), Value.int IntKind.i64 (0), Value.int IntKind.i64 (0),
            Value.slice none 0 0, Value.int IntKind.i64 (0), Value.slice none 0 0,
            Value.int IntKind.i64 (0), Value.bool false] },
    some { k := TK.func, size := 1, bytes := 8, zero := [Value.nilFunc] },
    some { k := TK.func, size := 1, bytes := 8, zero := [Value.nilFunc] },
    some { k := TK.func, size := 1, bytes := 8, zero := [Value.nilFunc] },
    some { k := TK.func, size := 1, bytes := 8, zero := [Value.nilFunc] },
    some { k := TK.func, size := 1, bytes := 8, zero := [Value.nilFunc] },
    some { k := TK.func, size := 1, bytes := 8, zero := [Value.nilFunc] },
    some { k := TK.ptr 5, size := 1, bytes := 8, zero := [Value.pointer none] },
    some { k := TK.func, size := 1, bytes := 8, zero := [Value.nilFunc] },
    some { k := TK.func, size := 1, bytes := 8, zero := [Value.nilFunc] },
    some { k := TK.func, size := 1, bytes := 8, zero := [Value.nilFunc] },
    some { k := TK.slice 238, size := 1, bytes := 24, zero := [Value.slice none 0 0] },
    some
      { k := TK.other, size := 1, bytes := 0,
        zero := [Value.tuple { toList := [Value.slice none 0 0, Value.int IntKind.i64 (0)] }] },
    some { k := TK.func, size := 1, bytes := 8, zero := [Value.nilFunc] },
    some
      { k := TK.struct [(0, 3), (1, 3)], size := 2, bytes := 16,
        zero := [Value.int IntKind.i64 (0), Value.int IntKind.i64 (0)] },
    some
      { k := TK.struct [(0, 3), (1, 3)], size := 2, bytes := 16,
        zero := [Value.int IntKind.i64 (0), Value.int IntKind.i64 (0)] },
    some { k := TK.slice 396, size := 1, bytes := 24, zero := [Value.slice none 0 0] },
    some
      { k := TK.struct [(0, 3), (1, 3), (2, 234)], size := 3, bytes := 40,
        zero := [Value.int IntKind.i64 (0), Value.int IntKind.i64 (0), Value.slice none 0 0] },
    some
      { k := TK.struct [(0, 3), (1, 3), (2, 234)], size := 3, bytes := 40,
        zero := [Value.int IntKind.i64 (0), Value.int IntKind.i64 (0), Value.slice none 0 0] },
    some
      { k := TK.struct [(0, 233), (2, 23), (7, 236)], size := 10, bytes := 96,
        zero :=
          [Value.int IntKind.i64 (0), Value.int IntKind.i64 (0), Value.int IntKind.i64 (0),
            Value.int IntKind.i64 (0), Value.int IntKind.i64 (0), Value.int IntKind.i64 (0),
            Value.int IntKind.i64 (0), Value.int IntKind.i64 (0), Value.int IntKind.i64 (0),
            Value.slice none 0 0] },
    some
      { k := TK.struct [(0, 233), (2, 23), (7, 236)], size := 10, bytes := 96,
        zero :=
          [Value.int IntKind.i64 (0), Value.int IntKind.i64 (0), Value.int IntKind.i64 (0),
            Value.int IntKind.i64 (0), Value.int IntKind.i64 (0), Value.int IntKind.i64 (0),
            Value.int IntKind.i64 (0), Value.int IntKind.i64 (0), Value.int IntKind.i64 (0),
            Value.slice none 0 0] },
    some { k := TK.slice 242, size := 1, bytes := 24, zero := [Value.slice none 0 0] },
    some { k := TK.func, size := 1, bytes := 8, zero := [Value.nilFunc] },
    some
      { k := TK.struct [(0, 3), (1, 3), (2, 3)], size := 3, bytes := 24,
        zero :=
          [Value.int IntKind.i64 (0), Value.int IntKind.i64 (0),
            Value.int IntKind.i64 (0)] },
    some
      { k := TK.struct [(0, 3), (1, 3), (2, 3)], size := 3, bytes := 24,
        zero :=
          [Value.int IntKind.i64 (0), Value.int IntKind.i64 (0),
            Value.int IntKind.i64 (0)] },
    some { k := TK.func, size := 1, bytes := 8, zero := [Value.nilFunc] },
    some { k := TK.func, size := 1, bytes := 8, zero := [Value.nilFunc] },
    some { k := TK.func, size := 1, bytes := 8, zero := [Value.nilFunc] },
    some { k := TK.slice 132, size := 1, bytes := 24, zero := [Value.slice none 0 0] },
    some { k := TK.func, size := 1, bytes := 8, zero := [Value.nilFunc] },
    some { k := TK.slice 191, size := 1, bytes := 24, zero := [Value.slice none 0 0] },
    some
      { k := TK.other, size := 1, bytes := 0,
        zero := [Value.tuple { toList := [Value.slice none 0 0, Value.slice none 0 0] }] },
    some { k := TK.func, size := 1, bytes := 8, zero := [Value.nilFunc] },
    some
      { k := TK.arr 7 4, size := 7, bytes := 7,
        zero :=
          [Value.bool false, Value.bool false, Value.bool false, Value.bool false, Value.bool false, Value.bool false,
            Value.bool false] },
    some
      { k := TK.arr 7 149, size := 28, bytes := 336,
        zero :=
          [Value.int IntKind.i64 (0), Value.int IntKind.i64 (0), Value.slice none 0 0,
            Value.int IntKind.i64 (0), Value.int IntKind.i64 (0), Value.int IntKind.i64 (0),
            Value.slice none 0 0, Value.int IntKind.i64 (0), Value.int IntKind.i64 (0),
            Value.int IntKind.i64 (0), Value.slice none 0 0, Value.int IntKind.i64 (0),
            Value.int IntKind.i64 (0), Value.int IntKind.i64 (0), Value.slice none 0 0,
            Value.int IntKind.i64 (0), Value.int IntKind.i64 (0), Value.int IntKind.i64 (0),
            Value.slice none 0 0, Value.int IntKind.i64 (0), Value.int IntKind.i64 (0),
            Value.int IntKind.i64 (0), Value.slice none 0 0, Value.int IntKind.i64 (0),
            Value.int IntKind.i64 (0), Value.int IntKind.i64 (0), Value.slice none 0 0,
            Value.int IntKind.i64 (0)] },
    some
      { k := TK.struct [(0, 3), (1, 3), (2, 3), (3, 3), (4, 3), (5, 251), (12, 252)], size := 40, bytes := 384,
        zero :=
          [Value.int IntKind.i64 (0), Value.int IntKind.i64 (0), Value.int IntKind.i64 (0),
            Value.int IntKind.i64 (0), Value.int IntKind.i64 (0), Value.bool false, Value.bool false,
            Value.bool false, Value.bool false, Value.bool false, Value.bool false, Value.bool false,
            Value.int IntKind.i64 (0), Value.int IntKind.i64 (0), Value.slice none 0 0,
            Value.int IntKind.i64 (0), Value.int IntKind.i64 (0), Value.int IntKind.i64 (0),
            Value.slice none 0 0, Value.int IntKind.i64 (0), Value.int IntKind.i64 (0),
            Value.int IntKind.i64 (0), Value.slice none 0 0, Value.int IntKind.i64 (0),
            Value.int IntKind.i64 (0), Value.int IntKind.i64 (0), Value.slice none 0 0,
            Value.int IntKind.i64 (0), Value.int IntKind.i64 (0), Value.int IntKind.i64 (0),
            Value.slice none 0 0, Value.int IntKind.i64 (0), Value.int IntKind.i64 (0),
            Value.int IntKind.i64 (0), Value.slice none 0 0, Value.int IntKind.i64 (0),
            Value.int IntKind.i64 (0), Value.int IntKind.i64 (0), Value.slice none 0 0,
            Value.int IntKind.i64 (0)] },
    some
      { k := TK.struct [(0, 3), (1, 3), (2, 3), (3, 3), (4, 3), (5, 251), (12, 252)], size := 40, bytes := 384,
        zero :=
          [Value.int IntKind.i64 (0), Value.int IntKind.i64 (0), Value.int IntKind.i64 (0),
            Value.int IntKind.i64 (0), Value.int IntKind.i64 (0), Value.bool false, Value.bool false,
            Value.bool false, Value.bool false, Value.bool false, Value.bool false, Value.bool false,
            Value.int IntKind.i64 (0), Value.int IntKind.i64 (0), Value.slice none 0 0,
            Value.int IntKind.i64 (0), Value.int IntKind.i64 (0), Value.int IntKind.i64 (0),
            Value.slice none 0 0, Value.int IntKind.i64 (0), Value.int IntKind.i64 (0),
            Value.int IntKind.i64 (0), Value.slice none 0 0, Value.int IntKind.i64 (0),
            Value.int IntKind.i64 (0), Value.int IntKind.i64 (0), Value.slice none 0 0,
            Value.int IntKind.i64 (0), Value.int IntKind.i64 (0), Value.int IntKind.i64 (0),
            Value.slice none 0 0, Value.int IntKind.i64 (0), Value.int IntKind.i64 (0),
            Value.int IntKind.i64 (0), Value.slice none 0 0, Value.int IntKind.i64 (0),
            Value.int IntKind.i64 (0), Value.int IntKind.i64 (0), Value.slice none 0 0,
            Value.int IntKind.i64 (0)] },
    some { k := TK.func, size := 1, bytes := 8, zero := [Value.nilFunc] },
    some { k := TK.func, size := 1, bytes := 8, zero := [Value.nilFunc] },
    some { k := TK.slice 149, size := 1, bytes := 24, zero := [Value.slice none 0 0] },
    some { k := TK.func, size := 1, bytes := 8, zero := [Value.nilFunc] },
    some
      { k := TK.other, size := 1, bytes := 0,
        zero :=
          [Value.tuple
              {
                toList :=
                  [Value.slice none 0 0, Value.int IntKind.i64 (0), Value.int IntKind.i64 (0)] }] },
    some { k := TK.func, size := 1, bytes := 8, zero := [Value.nilFunc] },
    some
      { k := TK.other, size := 1, bytes := 0,
        zero := [Value.tuple { toList := [Value.pointer none, Value.int IntKind.i64 (0)] }] },
    some { k := TK.func, size := 1, bytes := 8, zero := [Value.nilFunc] },
    some { k := TK.func, size := 1, bytes := 8, zero := [Value.nilFunc] },
    some
      { k := TK.struct [(0, 3), (1, 3)], size := 2, bytes := 16,
        zero := [Value.int IntKind.i64 (0), Value.int IntKind.i64 (0)] },
    some
      { k := TK.struct [(0, 3), (1, 3)], size := 2, bytes := 16,
        zero := [Value.int IntKind.i64 (0), Value.int IntKind.i64 (0)] },
    some
      { k := TK.other, size := 1, bytes := 0,
        zero :=
          [Value.tuple
              {
                toList :=
                  [Value.agg { toList := [Value.int IntKind.i64 (0), Value.int IntKind.i64 (0)] },
                    Value.bool false] }] },
    some { k := TK.map 3 265, size := 1, bytes := 8, zero := [Value.map none] },
    some
      { k := TK.struct [(0, 4), (1, 3), (2, 267)], size := 3, bytes := 24,
        zero := [Value.bool false, Value.int IntKind.i64 (0), Value.map none] },
    some
      { k := TK.struct [(0, 4), (1, 3), (2, 267)], size := 3, bytes := 24,
        zero := [Value.bool false, Value.int IntKind.i64 (0), Value.map none] },
    some { k := TK.slice 275, size := 1, bytes := 24, zero := [Value.slice none 0 0] },
    some { k := TK.func, size := 1, bytes := 8, zero := [Value.nilFunc] },
    some { k := TK.ptr 23, size := 1, bytes := 8, zero := [Value.pointer none] },
    some { k := TK.ptr 3, size := 1, bytes := 8, zero := [Value.pointer none] },
    some
      { k := TK.struct [(0, 273), (1, 3), (2, 3)], size := 3, bytes := 24,
        zero := [Value.pointer none, Value.int IntKind.i64 (0), Value.int IntKind.i64 (0)] },
    some
      { k := TK.struct [(0, 273), (1, 3), (2, 3)], size := 3, bytes := 24,
        zero := [Value.pointer none, Value.int IntKind.i64 (0), Value.int IntKind.i64 (0)] },
    some { k := TK.func, size := 1, bytes := 8, zero := [Value.nilFunc] },
    some { k := TK.func, size := 1, bytes := 8, zero := [Value.nilFunc] },
    some { k := TK.func, size := 1, bytes := 8, zero := [Value.nilFunc] },
    some { k := TK.func, size := 1, bytes := 8, zero := [Value.nilFunc] },
    some { k := TK.func, size := 1, bytes := 8, zero := [Value.nilFunc] },
    some { k := TK.func, size := 1, bytes := 8, zero := [Value.nilFunc] },
    some { k := TK.func, size := 1, bytes := 8, zero := [Value.nilFunc] },
    some { k := TK.func, size := 1, bytes := 8, zero := [Value.nilFunc] },
    some { k := TK.func, size := 1, bytes := 8, zero := [Value.nilFunc] },
    some
      { k := TK.other, size := 1, bytes := 0,
        zero :=
          [Value.tuple { toList := [Value.pointer none, Value.slice none 0 0, Value.int IntKind.i64 (0)] }] },
    some { k := TK.func, size := 1, bytes := 8, zero := [Value.nilFunc] },
    some
      { k := TK.other, size := 1, bytes := 0,
        zero :=
          [Value.tuple
              {
                toList :=
                  [Value.agg
                      {
                        toList :=
                          [Value.int IntKind.i64 (0), Value.int IntKind.i64 (0),
                            Value.int IntKind.i64 (0), Value.int IntKind.i64 (0),
                            Value.int IntKind.i64 (0), Value.int IntKind.i64 (0),
                            Value.slice none 0 0, Value.slice none 0 0] },
                    Value.int IntKind.i64 (0)] }] },
    some { k := TK.func, size := 1, bytes := 8, zero := [Value.nilFunc] },
    some
      { k := TK.other, size := 1, bytes := 0,
        zero :=
          [Value.tuple
              {
                toList :=
                  [Value.agg
                      {
                        toList :=
                          [Value.int IntKind.i64 (0), Value.int IntKind.i64 (0), Value.slice none 0 0,
                            Value.int IntKind.i64 (0), Value.int IntKind.i64 (0),
                            Value.int IntKind.i64 (0), Value.slice none 0 0,
                            Value.int IntKind.i64 (0), Value.int IntKind.i64 (0),
                            Value.int IntKind.i64 (0), Value.slice none 0 0,
                            Value.int IntKind.i64 (0), Value.int IntKind.i64 (0),
                            Value.int IntKind.i64 (0), Value.slice none 0 0,
                            Value.int IntKind.i64 (0), Value.slice none 0 0] },
                    Value.bool false] }] },
    some { k := TK.func, size := 1, bytes := 8, zero := [Value.nilFunc] },
    some { k := TK.func, size := 1, bytes := 8, zero := [Value.nilFunc] },
    some { k := TK.func, size := 1, bytes := 8, zero := [Value.nilFunc] },
    some { k := TK.func, size := 1, bytes := 8, zero := [Value.nilFunc] },
    some { k := TK.func, size := 1, bytes := 8, zero := [Value.nilFunc] },
    some { k := TK.func, size := 1, bytes := 8, zero := [Value.nilFunc] },
    some { k := TK.func, size := 1, bytes := 8, zero := [Value.nilFunc] },
    some { k := TK.func, size := 1, bytes := 8, zero := [Value.nilFunc] },
    some { k := TK.func, size := 1, bytes := 8, zero := [Value.nilFunc] },
    some
      { k := TK.struct [(0, 3), (1, 3)], size := 2, bytes := 16,
        zero := [Value.int IntKind.i64 (0), Value.int IntKind.i64 (0)] },
    some
      { k := TK.struct [(0, 3), (1, 3)], size := 2, bytes := 16,
        zero := [Value.int IntKind.i64 (0), Value.int IntKind.i64 (0)] },
    some
      { k := TK.struct [(0, 111), (1, 3), (2, 4), (3, 300)], size := 5, bytes := 40,
        zero :=
          [Value.pointer none, Value.int IntKind.i64 (0), Value.bool false, Value.int IntKind.i64 (0),
            Value.int IntKind.i64 (0)] },
    some
      { k := TK.struct [(0, 111), (1, 3), (2, 4), (3, 300)], size := 5, bytes := 40,
        zero :=
          [Value.pointer none, Value.int IntKind.i64 (0), Value.bool false, Value.int IntKind.i64 (0),
            Value.int IntKind.i64 (0)] },
    some { k := TK.func, size := 1, bytes := 8, zero := [Value.nilFunc] },
    some { k := TK.func, size := 1, bytes := 8, zero := [Value.nilFunc] },
    some { k := TK.func, size := 1, bytes := 8, zero := [Value.nilFunc] },
    some { k := TK.func, size := 1, bytes := 8, zero := [Value.nilFunc] },
    some { k := TK.func, size := 1, bytes := 8, zero := [Value.nilFunc] },
    some { k := TK.func, size := 1, bytes := 8, zero := [Value.nilFunc] },
    some { k := TK.func, size := 1, bytes := 8, zero := [Value.nilFunc] },
    some
      { k := TK.other, size := 1, bytes := 0,
        zero :=
          [Value.tuple
              {
                toList :=
                  [Value.agg { toList := [Value.int IntKind.i64 (0), Value.int IntKind.i64 (0)] },
                    Value.slice none 0 0, Value.bool false] }] },
    some { k := TK.func, size := 1, bytes := 8, zero := [Value.nilFunc] },
    some { k := TK.func, size := 1, bytes := 8, zero := [Value.nilFunc] },
    some { k := TK.func, size := 1, bytes := 8, zero := [Value.nilFunc] },
    some { k := TK.func, size := 1, bytes := 8, zero := [Value.nilFunc] },
    some { k := TK.func, size := 1, bytes := 8, zero := [Value.nilFunc] },
    some { k := TK.other, size := 1, bytes := 8, zero := [Value.pointer none] },
    some { k := TK.func, size := 1, bytes := 8, zero := [Value.nilFunc] },
    some { k := TK.func, size := 1, bytes := 8, zero := [Value.nilFunc] },
    some
      { k := TK.other, size := 1, bytes := 0,
        zero := [Value.tuple { toList := [Value.int IntKind.i32 (0), Value.int IntKind.i64 (0)] }] },
    some { k := TK.func, size := 1, bytes := 8, zero := [Value.nilFunc] },
    some { k := TK.func, size := 1, bytes := 8, zero := [Value.nilFunc] },
    some
      { k := TK.other, size := 1, bytes := 0,
        zero := [Value.tuple { toList := [Value.slice none 0 0, Value.int IntKind.i64 (0)] }] },
    some { k := TK.func, size := 1, bytes := 8, zero := [Value.nilFunc] },
    some
      { k := TK.arr 4 122, size := 4, bytes := 96,
        zero := [Value.slice none 0 0, Value.slice none 0 0, Value.slice none 0 0, Value.slice none 0 0] },
    some { k := TK.func, size := 1, bytes := 8, zero := [Value.nilFunc] },
    some { k := TK.func, size := 1, bytes := 8, zero := [Value.nilFunc] },
    some { k := TK.func, size := 1, bytes := 8, zero := [Value.nilFunc] },
    some { k := TK.func, size := 1, bytes := 8, zero := [Value.nilFunc] },
    some { k := TK.func, size := 1, bytes := 8, zero := [Value.nilFunc] },
    some { k := TK.func, size := 1, bytes := 8, zero := [Value.nilFunc] },
    some { k := TK.func, size := 1, bytes := 8, zero := [Value.nilFunc] },
    some { k := TK.func, size := 1, bytes := 8, zero := [Value.nilFunc] },
    some { k := TK.func, size := 1, bytes := 8, zero := [Value.nilFunc] },
    some
      { k := TK.arr 24 5, size := 24, bytes := 24,
        zero :=
          [Value.int IntKind.u8 (0), Value.int IntKind.u8 (0), Value.int IntKind.u8 (0),
            Value.int IntKind.u8 (0), Value.int IntKind.u8 (0), Value.int IntKind.u8 (0),
            Value.int IntKind.u8 (0), Value.int IntKind.u8 (0), Value.int IntKind.u8 (0),
            Value.int IntKind.u8 (0), Value.int IntKind.u8 (0), Value.int IntKind.u8 (0),
            Value.int IntKind.u8 (0), Value.int IntKind.u8 (0), Value.int IntKind.u8 (0),
            Value.int IntKind.u8 (0), Value.int IntKind.u8 (0), Value.int IntKind.u8 (0),
            Value.int IntKind.u8 (0), Value.int IntKind.u8 (0), Value.int IntKind.u8 (0),
            Value.int IntKind.u8 (0), Value.int IntKind.u8 (0), Value.int IntKind.u8 (0)] },
    some { k := TK.int IntKind.u64, size := 1, bytes := 8, zero := [Value.int IntKind.u64 (0)] },
    some { k := TK.func, size := 1, bytes := 8, zero := [Value.nilFunc] },
    some { k := TK.func, size := 1, bytes := 8, zero := [Value.nilFunc] },
    some
      { k := TK.other, size := 1, bytes := 0,
        zero := [Value.tuple { toList := [Value.slice none 0 0, Value.string ByteArray.empty] }] },
    some { k := TK.func, size := 1, bytes := 8, zero := [Value.nilFunc] },
    some { k := TK.func, size := 1, bytes := 8, zero := [Value.nilFunc] },
    some { k := TK.func, size := 1, bytes := 8, zero := [Value.nilFunc] },
    some
      { k := TK.arr 11 3, size := 11, bytes := 88,
        zero :=
          [Value.int IntKind.i64 (0), Value.int IntKind.i64 (0), Value.int IntKind.i64 (0),
            Value.int IntKind.i64 (0), Value.int IntKind.i64 (0), Value.int IntKind.i64 (0),
            Value.int IntKind.i64 (0), Value.int IntKind.i64 (0), Value.int IntKind.i64 (0),
            Value.int IntKind.i64 (0), Value.int IntKind.i64 (0)] },
    some { k := TK.func, size := 1, bytes := 8, zero := [Value.nilFunc] },
    some { k := TK.func, size := 1, bytes := 8, zero := [Value.nilFunc] },
    some { k := TK.func, size := 1, bytes := 8, zero := [Value.nilFunc] },
    some { k := TK.func, size := 1, bytes := 8, zero := [Value.nilFunc] },
    some { k := TK.func, size := 1, bytes := 8, zero := [Value.nilFunc] },
    some { k := TK.func, size := 1, bytes := 8, zero := [Value.nilFunc] },
    some { k := TK.func, size := 1, bytes := 8, zero := [Value.nilFunc] },
    some { k := TK.func, size := 1, bytes := 8, zero := [Value.nilFunc] },
    some
      { k := TK.struct [(0, 3), (1, 4), (2, 3), (3, 3)], size := 4, bytes := 32,
        zero :=
          [Value.int IntKind.i64 (0), Value.bool false, Value.int IntKind.i64 (0),
            Value.int IntKind.i64 (0)] },
    some
      { k := TK.struct [(0, 3), (1, 4), (2, 3), (3, 3)], size := 4, bytes := 32,
        zero :=
          [Value.int IntKind.i64 (0), Value.bool false, Value.int IntKind.i64 (0),
            Value.int IntKind.i64 (0)] },
    some { k := TK.slice 236, size := 1, bytes := 24, zero := [Value.slice none 0 0] },
    some
      { k := TK.other, size := 1, bytes := 0,
        zero :=
          [Value.tuple
              {
                toList :=
                  [Value.agg
                      {
                        toList :=
                          [Value.int IntKind.i64 (0), Value.bool false, Value.int IntKind.i64 (0),
                            Value.int IntKind.i64 (0)] },
                    Value.slice none 0 0] }] },
    some { k := TK.func, size := 1, bytes := 8, zero := [Value.nilFunc] },
    some { k := TK.func, size := 1, bytes := 8, zero := [Value.nilFunc] },
    some { k := TK.func, size := 1, bytes := 8, zero := [Value.nilFunc] },
    some { k := TK.func, size := 1, bytes := 8, zero := [Value.nilFunc] },
    some
      { k := TK.other, size := 1, bytes := 0,
        zero := [Value.tuple { toList := [Value.slice none 0 0, Value.int IntKind.i64 (0)] }] },
    some { k := TK.func, size := 1, bytes := 8, zero := [Value.nilFunc] },
    some { k := TK.func, size := 1, bytes := 8, zero := [Value.nilFunc] },
    some { k := TK.ptr 364, size := 1, bytes := 8, zero := [Value.pointer none] },
    some
      { k := TK.struct [(0, 9), (1, 3), (2, 4)], size := 3, bytes := 32,
        zero := [Value.string ByteArray.empty, Value.int IntKind.i64 (0), Value.bool false] },
    some
      { k := TK.struct [(0, 9), (1, 3), (2, 4)], size := 3, bytes := 32,
        zero := [Value.string ByteArray.empty, Value.int IntKind.i64 (0), Value.bool false] },
    some { k := TK.func, size := 1, bytes := 8, zero := [Value.nilFunc] },
    some { k := TK.func, size := 1, bytes := 8, zero := [Value.nilFunc] },
    some { k := TK.func, size := 1, bytes := 8, zero := [Value.nilFunc] },
    some { k := TK.func, size := 1, bytes := 8, zero := [Value.nilFunc] },
    some { k := TK.func, size := 1, bytes := 8, zero := [Value.nilFunc] },
    some { k := TK.func, size := 1, bytes := 8, zero := [Value.nilFunc] },
    some
      { k := TK.other, size := 1, bytes := 0,
        zero :=
          [Value.tuple
              {
                toList :=
                  [Value.agg
                      {
                        toList :=
                          [Value.int IntKind.i64 (0), Value.int IntKind.i64 (0), Value.slice none 0 0,
                            Value.int IntKind.i64 (0)] },
                    Value.bool false] }] },
    some { k := TK.func, size := 1, bytes := 8, zero := [Value.nilFunc] },
    some { k := TK.func, size := 1, bytes := 8, zero := [Value.nilFunc] },
    some { k := TK.func, size := 1, bytes := 8, zero := [Value.nilFunc] },
    some { k := TK.slice 80, size := 1, bytes := 24, zero := [Value.slice none 0 0] },
    some { k := TK.func, size := 1, bytes := 8, zero := [Value.nilFunc] },
    some { k := TK.func, size := 1, bytes := 8, zero := [Value.nilFunc] },
    some { k := TK.func, size := 1, bytes := 8, zero := [Value.nilFunc] },
    some { k := TK.func, size := 1, bytes := 8, zero := [Value.nilFunc] },
    some { k := TK.func, size := 1, bytes := 8, zero := [Value.nilFunc] },
    some { k := TK.func, size := 1, bytes := 8, zero := [Value.nilFunc] },
    some { k := TK.func, size := 1, bytes := 8, zero := [Value.nilFunc] },
    some { k := TK.func, size := 1, bytes := 8, zero := [Value.nilFunc] },
    some { k := TK.func, size := 1, bytes := 8, zero := [Value.nilFunc] },
    some { k := TK.int IntKind.u64, size := 1, bytes := 8, zero := [Value.int IntKind.u64 (0)] },
    some { k := TK.int IntKind.i64, size := 1, bytes := 8, zero := [Value.int IntKind.i64 (0)] },
    some
      { k := TK.other, size := 1, bytes := 0,
        zero := [Value.tuple { toList := [Value.int IntKind.i64 (0), Value.nilIface] }] },
    some { k := TK.func, size := 1, bytes := 8, zero := [Value.nilFunc] },
    some { k := TK.ptr 455, size := 1, bytes := 8, zero := [Value.pointer none] },
    some { k := TK.func, size := 1, bytes := 8, zero := [Value.nilFunc] },
    some { k := TK.func, size := 1, bytes := 8, zero := [Value.nilFunc] },
    some
      { k := TK.arr 4 353, size := 4, bytes := 96,
        zero := [Value.slice none 0 0, Value.slice none 0 0, Value.slice none 0 0, Value.slice none 0 0] },
    some { k := TK.map 3 3, size := 1, bytes := 8, zero := [Value.map none] },
    some { k := TK.func, size := 1, bytes := 8, zero := [Value.nilFunc] },
    some
      { k := TK.struct [(0, 3), (1, 3)], size := 2, bytes := 16,
        zero := [Value.int IntKind.i64 (0), Value.int IntKind.i64 (0)] },
    some
      { k := TK.struct [(0, 3), (1, 3)], size := 2, bytes := 16,
        zero := [Value.int IntKind.i64 (0), Value.int IntKind.i64 (0)] },
    some { k := TK.func, size := 1, bytes := 8, zero := [Value.nilFunc] },
    some { k := TK.slice 401, size := 1, bytes := 24, zero := [Value.slice none 0 0] },
    some { k := TK.func, size := 1, bytes := 8, zero := [Value.nilFunc] },
    some
      { k := TK.struct [(0, 149), (4, 4)], size := 5, bytes := 56,
        zero :=
          [Value.int IntKind.i64 (0), Value.int IntKind.i64 (0), Value.slice none 0 0,
            Value.int IntKind.i64 (0), Value.bool false] },
    some
      { k := TK.struct [(0, 149), (4, 4)], size := 5, bytes := 56,
        zero :=
          [Value.int IntKind.i64 (0), Value.int IntKind.i64 (0), Value.slice none 0 0,
            Value.int IntKind.i64 (0), Value.bool false] },
    some { k := TK.func, size := 1, bytes := 8, zero := [Value.nilFunc] },
    some { k := TK.func, size := 1, bytes := 8, zero := [Value.nilFunc] },
    some { k := TK.func, size := 1, bytes := 8, zero := [Value.nilFunc] },
    some { k := TK.func, size := 1, bytes := 8, zero := [Value.nilFunc] },
    some { k := TK.func, size := 1, bytes := 8, zero := [Value.nilFunc] },
    some
      { k := TK.arr 20 335, size := 20, bytes := 160,
        zero :=
          [Value.int IntKind.u64 (0), Value.int IntKind.u64 (0), Value.int IntKind.u64 (0),
            Value.int IntKind.u64 (0), Value.int IntKind.u64 (0), Value.int IntKind.u64 (0),
            Value.int IntKind.u64 (0), Value.int IntKind.u64 (0), Value.int IntKind.u64 (0),
            Value.int IntKind.u64 (0), Value.int IntKind.u64 (0), Value.int IntKind.u64 (0),
            Value.int IntKind.u64 (0), Value.int IntKind.u64 (0), Value.int IntKind.u64 (0),
            Value.int IntKind.u64 (0), Value.int IntKind.u64 (0), Value.int IntKind.u64 (0),
            Value.int IntKind.u64 (0), Value.int IntKind.u64 (0)] },
    some { k := TK.int IntKind.u32, size := 1, bytes := 4, zero := [Value.int IntKind.u32 (0)] },
    some
      { k := TK.arr 65 5, size := 65, bytes := 65,
        zero :=
          [Value.int IntKind.u8 (0), Value.int IntKind.u8 (0), Value.int IntKind.u8 (0),
            Value.int IntKind.u8 (0), Value.int IntKind.u8 (0), Value.int IntKind.u8 (0),
            Value.int IntKind.u8 (0), Value.int IntKind.u8 (0), Value.int IntKind.u8 (0),
            Value.int IntKind.u8 (0), Value.int IntKind.u8 (0), Value.int IntKind.u8 (0),
            Value.int IntKind.u8 (0), Value.int IntKind.u8 (0), Value.int IntKind.u8 (0),
            Value.int IntKind.u8 (0), Value.int IntKind.u8 (0), Value.int IntKind.u8 (0),
            Value.int IntKind.u8 (0), Value.int IntKind.u8 (0), Value.int IntKind.u8 (0),
            Value.int IntKind.u8 (0), Value.int IntKind.u8 (0), Value.int IntKind.u8 (0),
            Value.int IntKind.u8 (0), Value.int IntKind.u8 (0), Value.int IntKind.u8 (0),
            Value.int IntKind.u8 (0), Value.int IntKind.u8 (0), Value.int IntKind.u8 (0),
            Value.int IntKind.u8 (0), Value.int IntKind.u8 (0), Value.int IntKind.u8 (0),
            Value.int IntKind.u8 (0), Value.int IntKind.u8 (0), Value.int IntKind.u8 (0),
            Value.int IntKind.u8 (0), Value.int IntKind.u8 (0), Value.int IntKind.u8 (0),
            Value.int IntKind.u8 (0), Value.int IntKind.u8 (0), Value.int IntKind.u8 (0),
            Value.int IntKind.u8 (0), Value.int IntKind.u8 (0), Value.int IntKind.u8 (0),
            Value.int IntKind.u8 (0), Value.int IntKind.u8 (0), Value.int IntKind.u8 (0),
            Value.int IntKind.u8 (0), Value.int IntKind.u8 (0), Value.int IntKind.u8 (0),
            Value.int IntKind.u8 (0), Value.int IntKind.u8 (0), Value.int IntKind.u8 (0),
            Value.int IntKind.u8 (0), Value.int IntKind.u8 (0), Value.int IntKind.u8 (0),
            Value.int IntKind.u8 (0), Value.int IntKind.u8 (0), Value.int IntKind.u8 (0),
            Value.int IntKind.u8 (0), Value.int IntKind.u8 (0), Value.int IntKind.u8 (0),
            Value.int IntKind.u8 (0), Value.int IntKind.u8 (0)] },
    some { k := TK.func, size := 1, bytes := 8, zero := [Value.nilFunc] },
    some { k := TK.func, size := 1, bytes := 8, zero := [Value.nilFunc] },
    some { k := TK.func, size := 1, bytes := 8, zero := [Value.nilFunc] },
    some { k := TK.func, size := 1, bytes := 8, zero := [Value.nilFunc] },
    some { k := TK.func, size := 1, bytes := 8, zero := [Value.nilFunc] },
    some { k := TK.func, size := 1, bytes := 8, zero := [Value.nilFunc] },
    some { k := TK.ptr 248, size := 1, bytes := 8, zero := [Value.pointer none] },
    some { k := TK.slice 419, size := 1, bytes := 24, zero := [Value.slice none 0 0] },
    some
      { k := TK.struct [(0, 3), (1, 3)], size := 2, bytes := 16,
        zero := [Value.int IntKind.i64 (0), Value.int IntKind.i64 (0)] },
    some
      { k := TK.struct [(0, 3), (1, 3)], size := 2, bytes := 16,
        zero := [Value.int IntKind.i64 (0), Value.int IntKind.i64 (0)] },
    some { k := TK.func, size := 1, bytes := 8, zero := [Value.nilFunc] },
    some { k := TK.func, size := 1, bytes := 8, zero := [Value.nilFunc] },
    some { k := TK.func, size := 1, bytes := 8, zero := [Value.nilFunc] },
    some { k := TK.func, size := 1, bytes := 8, zero := [Value.nilFunc] },
    some { k := TK.map 426 3, size := 1, bytes := 8, zero := [Value.map none] },
    some { k := TK.struct [(0, 3)], size := 1, bytes := 8, zero := [Value.int IntKind.i64 (0)] },
    some { k := TK.struct [(0, 3)], size := 1, bytes := 8, zero := [Value.int IntKind.i64 (0)] },
    some { k := TK.func, size := 1, bytes := 8, zero := [Value.nilFunc] },
    some { k := TK.func, size := 1, bytes := 8, zero := [Value.nilFunc] },
    some { k := TK.func, size := 1, bytes := 8, zero := [Value.nilFunc] },
    some
      { k := TK.other, size := 1, bytes := 0,
        zero :=
          [Value.tuple
              {
                toList :=
                  [Value.string ByteArray.empty, Value.int IntKind.i64 (0), Value.bool false] }] },
    some { k := TK.func, size := 1, bytes := 8, zero := [Value.nilFunc] },
    some { k := TK.slice 273, size := 1, bytes := 24, zero := [Value.slice none 0 0] },
    some
      { k := TK.other, size := 1, bytes := 0,
        zero :=
          [Value.tuple
              {
                toList :=
                  [Value.int IntKind.i64 (0), Value.int IntKind.i64 (0), Value.bool false] }] },
    some { k := TK.func, size := 1, bytes := 8, zero := [Value.nilFunc] },
    some { k := TK.func, size := 1, bytes := 8, zero := [Value.nilFunc] },
    some
      { k := TK.other, size := 1, bytes := 0,
        zero := [Value.tuple { toList := [Value.slice none 0 0, Value.bool false] }] },
    some { k := TK.func, size := 1, bytes := 8, zero := [Value.nilFunc] },
    some { k := TK.func, size := 1, bytes := 8, zero := [Value.nilFunc] },
    some { k := TK.func, size := 1, bytes := 8, zero := [Value.nilFunc] },
    some { k := TK.func, size := 1, bytes := 8, zero := [Value.nilFunc] },
    some { k := TK.func, size := 1, bytes := 8, zero := [Value.nilFunc] },
    some { k := TK.func, size := 1, bytes := 8, zero := [Value.nilFunc] },
    some { k := TK.func, size := 1, bytes := 8, zero := [Value.nilFunc] },
    some { k := TK.func, size := 1, bytes := 8, zero := [Value.nilFunc] },
    some { k := TK.func, size := 1, bytes := 8, zero := [Value.nilFunc] },
    some
      { k := TK.arr 256 5, size := 256, bytes := 256,
        zero :=
          [Value.int IntKind.u8 (0), Value.int IntKind.u8 (0), Value.int IntKind.u8 (0),
            Value.int IntKind.u8 (0), Value.int IntKind.u8 (0), Value.int IntKind.u8 (0),
            Value.int IntKind.u8 (0), Value.int IntKind.u8 (0), Value.int IntKind.u8 (0),
            Value.int IntKind.u8 (0), Value.int IntKind.u8 (0), Value.int IntKind.u8 (0),
            Value.int IntKind.u8 (0), Value.int IntKind.u8 (0), Value.int IntKind.u8 (0),
            Value.int IntKind.u8 (0), Value.int IntKind.u8 (0), Value.int IntKind.u8 (0),
            Value.int IntKind.u8 (0), Value.int IntKind.u8 (0), Value.int IntKind.u8 (0),
            Value.int IntKind.u8 (0), Value.int IntKind.u8 (0), Value.int IntKind.u8 (0),
            Value.int IntKind.u8 (0), Value.int IntKind.u8 (0), Value.int IntKind.u8 (0),
            Value.int IntKind.u8 (0), Value.int IntKind.u8 (0), Value.int IntKind.u8 (0),
            Value.int IntKind.u8 (0), Value.int IntKind.u8 (0), Value.int IntKind.u8 (0),
            Value.int IntKind.u8 (0), Value.int IntKind.u8 (0), Value.int IntKind.u8 (0),
            Value.int IntKind.u8 (0), Value.int IntKind.u8 (0), Value.int IntKind.u8 (0),
            Value.int IntKind.u8 (0), Value.int IntKind.u8 (0), Value.int IntKind.u8 (0),
            Value.int IntKind.u8 (0), Value.int IntKind.u8 (0), Value.int IntKind.u8 (0),
            Value.int IntKind.u8 (0), Value.int IntKind.u8 (0), Value.int IntKind.u8 (0),
            Value.int IntKind.u8 (0), Value.int IntKind.u8 (0), Value.int IntKind.u8 (0),
            Value.int IntKind.u8 (0), Value.int IntKind.u8 (0), Value.int IntKind.u8 (0),
            Value.int IntKind.u8 (0), Value.int IntKind.u8 (0), Value.int IntKind.u8 (0),
            Value.int IntKind.u8 (0), Value.int IntKind.u8 (0), Value.int IntKind.u8 (0),
            Value.int IntKind.u8 (0), Value.int IntKind.u8 (0), Value.int IntKind.u8 (0),
            Value.int IntKind.u8 (0), Value.int IntKind.u8 (0), Value.int IntKind.u8 (0),
            Value.int IntKind.u8 (0), Value.int IntKind.u8 (0), Value.int IntKind.u8 (0),
            Value.int IntKind.u8 (0), Value.int IntKind.u8 (0), Value.int IntKind.u8 (0),
            Value.int IntKind.u8 (0), Value.int IntKind.u8 (0), Value.int IntKind.u8 (0),
            Value.int IntKind.u8 (0), Value.int IntKind.u8 (0), Value.int IntKind.u8 (0),
            Value.int IntKind.u8 (0), Value.int IntKind.u8 (0), Value.int IntKind.u8 (0),
            Value.int IntKind.u8 (0), Value.int IntKind.u8 (0), Value.int IntKind.u8 (0),
            Value.int IntKind.u8 (0), Value.int IntKind.u8 (0), Value.int IntKind.u8 (0),
            Value.int IntKind.u8 (0), Value.int IntKind.u8 (0), Value.int IntKind.u8 (0),
            Value.int IntKind.u8 (0), Value.int IntKind.u8 (0), Value.int IntKind.u8 (0),
            Value.int IntKind.u8 (0), Value.int IntKind.u8 (0), Value.int IntKind.u8 (0),
            Value.int IntKind.u8 (0), Value.int IntKind.u8 (0), Value.int IntKind.u8 (0),
            Value.int IntKind.u8 (0), Value.int IntKind.u8 (0), Value.int IntKind.u8 (0),
            Value.int IntKind.u8 (0), Value.int IntKind.u8 (0), Value.int IntKind.u8 (0),
            Value.int IntKind.u8 (0), Value.int IntKind.u8 (0), Value.int IntKind.u8 (0),
            Value.int IntKind.u8 (0), Value.int IntKind.u8 (0), Value.int IntKind.u8 (0),
            Value.int IntKind.u8 (0), Value.int IntKind.u8 (0), Value.int IntKind.u8 (0),
            Value.int IntKind.u8 (0), Value.int IntKind.u8 (0), Value.int IntKind.u8 (0),
            Value.int IntKind.u8 (0), Value.int IntKind.u8 (0), Value.int IntKind.u8 (0),
            Value.int IntKind.u8 (0), Value.int IntKind.u8 (0), Value.int IntKind.u8 (0),
            Value.int IntKind.u8 (0), Value.int IntKind.u8 (0), Value.int IntKind.u8 (0),
            Value.int IntKind.u8 (0), Value.int IntKind.u8 (0), Value.int IntKind.u8 (0),
            Value.int IntKind.u8 (0), Value.int IntKind.u8 (0), Value.int IntKind.u8 (0),
            Value.int IntKind.u8 (0), Value.int IntKind.u8 (0), Value.int IntKind.u8 (0),
            Value.int IntKind.u8 (0), Value.int IntKind.u8 (0), Value.int IntKind.u8 (0),
            Value.int IntKind.u8 (0), Value.int IntKind.u8 (0), Value.int IntKind.u8 (0),
            Value.int IntKind.u8 (0), Value.int IntKind.u8 (0), Value.int IntKind.u8 (0),
            Value.int IntKind.u8 (0), Value.int IntKind.u8 (0), Value.int IntKind.u8 (0),
            Value.int IntKind.u8 (0), Value.int IntKind.u8 (0), Value.int IntKind.u8 (0),
            Value.int IntKind.u8 (0), Value.int IntKind.u8 (0), Value.int IntKind.u8 (0),
            Value.int IntKind.u8 (0), Value.int IntKind.u8 (0), Value.int IntKind.u8 (0),
            Value.int IntKind.u8 (0), Value.int IntKind.u8 (0), Value.int IntKind.u8 (0),
            Value.int IntKind.u8 (0), Value.int IntKind.u8 (0), Value.int IntKind.u8 (0),
            Value.int IntKind.u8 (0), Value.int IntKind.u8 (0), Value.int IntKind.u8 (0),
            Value.int IntKind.u8 (0), Value.int IntKind.u8 (0), Value.int IntKind.u8 (0),
            Value.int IntKind.u8 (0), Value.int IntKind.u8 (0), Value.int IntKind.u8 (0),
            Value.int IntKind.u8 (0), Value.int IntKind.u8 (0), Value.int IntKind.u8 (0),
            Value.int IntKind.u8 (0), Value.int IntKind.u8 (0), Value.int IntKind.u8 (0),
            Value.int IntKind.u8 (0), Value.int IntKind.u8 (0), Value.int IntKind.u8 (0),
            Value.int IntKind.u8 (0), Value.int IntKind.u8 (0), Value.int IntKind.u8 (0),
            Value.int IntKind.u8 (0), Value.int IntKind.u8 (0), Value.int IntKind.u8 (0),
            Value.int IntKind.u8 (0), Value.int IntKind.u8 (0), Value.int IntKind.u8 (0),
            Value.int IntKind.u8 (0), Value.int IntKind.u8 (0), Value.int IntKind.u8 (0),
            Value.int IntKind.u8 (0), Value.int IntKind.u8 (0), Value.int IntKind.u8 (0),
            Value.int IntKind.u8 (0), Value.int IntKind.u8 (0), Value.int IntKind.u8 (0),
            Value.int IntKind.u8 (0), Value.int IntKind.u8 (0), Value.int IntKind.u8 (0),
            Value.int IntKind.u8 (0), Value.int IntKind.u8 (0), Value.int IntKind.u8 (0),
            Value.int IntKind.u8 (0), Value.int IntKind.u8 (0), Value.int IntKind.u8 (0),
            Value.int IntKind.u8 (0), Value.int IntKind.u8 (0), Value.int IntKind.u8 (0),
            Value.int IntKind.u8 (0), Value.int IntKind.u8 (0), Value.int IntKind.u8 (0),
            Value.int IntKind.u8 (0), Value.int IntKind.u8 (0), Value.int IntKind.u8 (0),
            Value.int IntKind.u8 (0), Value.int IntKind.u8 (0), Value.int IntKind.u8 (0),
            Value.int IntKind.u8 (0), Value.int IntKind.u8 (0), Value.int IntKind.u8 (0),
            Value.int IntKind.u8 (0), Value.int IntKind.u8 (0), Value.int IntKind.u8 (0),
            Value.int IntKind.u8 (0), Value.int IntKind.u8 (0), Value.int IntKind.u8 (0),
            Value.int IntKind.u8 (0), Value.int IntKind.u8 (0), Value.int IntKind.u8 (0),
            Value.int IntKind.u8 (0), Value.int IntKind.u8 (0), Value.int IntKind.u8 (0),
            Value.int IntKind.u8 (0), Value.int IntKind.u8 (0), Value.int IntKind.u8 (0),
            Value.int IntKind.u8 (0), Value.int IntKind.u8 (0), Value.int IntKind.u8 (0),
            Value.int IntKind.u8 (0), Value.int IntKind.u8 (0), Value.int IntKind.u8 (0),
            Value.int IntKind.u8 (0), Value.int IntKind.u8 (0), Value.int IntKind.u8 (0),
            Value.int IntKind.u8 (0), Value.int IntKind.u8 (0), Value.int IntKind.u8 (0),
            Value.int IntKind.u8 (0), Value.int IntKind.u8 (0), Value.int IntKind.u8 (0),
            Value.int IntKind.u8 (0), Value.int IntKind.u8 (0), Value.int IntKind.u8 (0),
            Value.int IntKind.u8 (0)] },
    some
      { k := TK.struct [(0, 5), (1, 5)], size := 2, bytes := 2,
        zero := [Value.int IntKind.u8 (0), Value.int IntKind.u8 (0)] },
    some
      { k := TK.struct [(0, 5), (1, 5)], size := 2, bytes := 2,
        zero := [Value.int IntKind.u8 (0), Value.int IntKind.u8 (0)] },
    some
      { k := TK.arr 16 448, size := 32, bytes := 32,
        zero :=
          [Value.int IntKind.u8 (0), Value.int IntKind.u8 (0), Value.int IntKind.u8 (0),
            Value.int IntKind.u8 (0), Value.int IntKind.u8 (0), Value.int IntKind.u8 (0),
            Value.int IntKind.u8 (0), Value.int IntKind.u8 (0), Value.int IntKind.u8 (0),
            Value.int IntKind.u8 (0), Value.int IntKind.u8 (0), Value.int IntKind.u8 (0),
            Value.int IntKind.u8 (0), Value.int IntKind.u8 (0), Value.int IntKind.u8 (0),
            Value.int IntKind.u8 (0), Value.int IntKind.u8 (0), Value.int IntKind.u8 (0),
            Value.int IntKind.u8 (0), Value.int IntKind.u8 (0), Value.int IntKind.u8 (0),
            Value.int IntKind.u8 (0), Value.int IntKind.u8 (0), Value.int IntKind.u8 (0),
            Value.int IntKind.u8 (0), Value.int IntKind.u8 (0), Value.int IntKind.u8 (0),
            Value.int IntKind.u8 (0), Value.int IntKind.u8 (0), Value.int IntKind.u8 (0),
            Value.int IntKind.u8 (0), Value.int IntKind.u8 (0)] },
    some
      { k := TK.other, size := 1, bytes := 0,
        zero := [Value.tuple { toList := [Value.int IntKind.u32 (0), Value.int IntKind.u32 (0)] }] },
    some { k := TK.func, size := 1, bytes := 8, zero := [Value.nilFunc] },
    some
      { k := TK.other, size := 1, bytes := 0,
        zero := [Value.tuple { toList := [Value.int IntKind.u64 (0), Value.nilIface] }] },
    some { k := TK.func, size := 1, bytes := 8, zero := [Value.nilFunc] },
    some
      { k := TK.struct [(0, 9), (1, 9), (2, 163)], size := 3, bytes := 48,
        zero := [Value.string ByteArray.empty, Value.string ByteArray.empty, Value.nilIface] },
    some
      { k := TK.struct [(0, 9), (1, 9), (2, 163)], size := 3, bytes := 48,
        zero := [Value.string ByteArray.empty, Value.string ByteArray.empty, Value.nilIface] },
    some { k := TK.func, size := 1, bytes := 8, zero := [Value.nilFunc] },
    some { k := TK.func, size := 1, bytes := 8, zero := [Value.nilFunc] },
    some { k := TK.func, size := 1, bytes := 8, zero := [Value.nilFunc] },
    some { k := TK.func, size := 1, bytes := 8, zero := [Value.nilFunc] },
    some { k := TK.int IntKind.i64, size := 1, bytes := 8, zero := [Value.int IntKind.i64 (0)] },
    some
      { k := TK.other, size := 1, bytes := 0,
        zero := [Value.tuple { toList := [Value.int IntKind.i64 (0), Value.int IntKind.i64 (0)] }] },
    some { k := TK.func, size := 1, bytes := 8, zero := [Value.nilFunc] },
    some { k := TK.func, size := 1, bytes := 8, zero := [Value.nilFunc] },
    some { k := TK.func, size := 1, bytes := 8, zero := [Value.nilFunc] },
    some { k := TK.func, size := 1, bytes := 8, zero := [Value.nilFunc] },
    some { k := TK.func, size := 1, bytes := 8, zero := [Value.nilFunc] },
    some { k := TK.func, size := 1, bytes := 8, zero := [Value.nilFunc] },
    some { k := TK.func, size := 1, bytes := 8, zero := [Value.nilFunc] },
    some { k := TK.func, size := 1, bytes := 8, zero := [Value.nilFunc] },
    some { k := TK.func, size := 1, bytes := 8, zero := [Value.nilFunc] },
    some { k := TK.func, size := 1, bytes := 8, zero := [Value.nilFunc] },
    some { k := TK.func, size := 1, bytes := 8, zero := [Value.nilFunc] },
    some { k := TK.func, size := 1, bytes := 8, zero := [Value.nilFunc] },
    some { k := TK.other, size := 1, bytes := 16, zero := [Value.nilIface] },
    some { k := TK.other, size := 1, bytes := 16, zero := [Value.nilIface] },
    some { k := TK.func, size := 1, bytes := 8, zero := [Value.nilFunc] },
    some { k := TK.func, size := 1, bytes := 8, zero := [Value.nilFunc] },
    some { k := TK.func, size := 1, bytes := 8, zero := [Value.nilFunc] },
    some
      { k := TK.arr 4 5, size := 4, bytes := 4,
        zero :=
          [Value.int IntKind.u8 (0), Value.int IntKind.u8 (0), Value.int IntKind.u8 (0),
            Value.int IntKind.u8 (0)] },
    some { k := TK.func, size := 1, bytes := 8, zero := [Value.nilFunc] },
    some { k := TK.func, size := 1, bytes := 8, zero := [Value.nilFunc] },
    some { k := TK.func, size := 1, bytes := 8, zero := [Value.nilFunc] },
    some { k := TK.ptr 485, size := 1, bytes := 8, zero := [Value.pointer none] },
    some { k := TK.struct [(0, 9)], size := 1, bytes := 16, zero := [Value.string ByteArray.empty] },
    some { k := TK.struct [(0, 9)], size := 1, bytes := 16, zero := [Value.string ByteArray.empty] },
    some { k := TK.int IntKind.u64, size := 1, bytes := 8, zero := [Value.int IntKind.u64 (0)] },
    some { k := TK.func, size := 1, bytes := 8, zero := [Value.nilFunc] },
    some { k := TK.func, size := 1, bytes := 8, zero := [Value.nilFunc] },
    some { k := TK.func, size := 1, bytes := 8, zero := [Value.nilFunc] },
    some { k := TK.func, size := 1, bytes := 8, zero := [Value.nilFunc] },
    some
      { k := TK.arr 32 5, size := 32, bytes := 32,
        zero :=
          [Value.int IntKind.u8 (0), Value.int IntKind.u8 (0), Value.int IntKind.u8 (0),
            Value.int IntKind.u8 (0), Value.int IntKind.u8 (0), Value.int IntKind.u8 (0),
            Value.int IntKind.u8 (0), Value.int IntKind.u8 (0), Value.int IntKind.u8 (0),
            Value.int IntKind.u8 (0), Value.int IntKind.u8 (0), Value.int IntKind.u8 (0),
            Value.int IntKind.u8 (0), Value.int IntKind.u8 (0), Value.int IntKind.u8 (0),
            Value.int IntKind.u8 (0), Value.int IntKind.u8 (0), Value.int IntKind.u8 (0),
            Value.int IntKind.u8 (0), Value.int IntKind.u8 (0), Value.int IntKind.u8 (0),
            Value.int IntKind.u8 (0), Value.int IntKind.u8 (0), Value.int IntKind.u8 (0),
            Value.int IntKind.u8 (0), Value.int IntKind.u8 (0), Value.int IntKind.u8 (0),
            Value.int IntKind.u8 (0), Value.int IntKind.u8 (0), Value.int IntKind.u8 (0),
            Value.int IntKind.u8 (0), Value.int IntKind.u8 (0)] },
    some
      { k := TK.arr 64 5, size := 64, bytes := 64,
        zero :=
          [Value.int IntKind.u8 (0), Value.int IntKind.u8 (0), Value.int IntKind.u8 (0),
            Value.int IntKind.u8 (0), Value.int IntKind.u8 (0), Value.int IntKind.u8 (0),
            Value.int IntKind.u8 (0), Value.int IntKind.u8 (0), Value.int IntKind.u8 (0),
            Value.int IntKind.u8 (0), Value.int IntKind.u8 (0), Value.int IntKind.u8 (0),
            Value.int IntKind.u8 (0), Value.int IntKind.u8 (0), Value.int IntKind.u8 (0),
            Value.int IntKind.u8 (0), Value.int IntKind.u8 (0), Value.int IntKind.u8 (0),
            Value.int IntKind.u8 (0), Value.int IntKind.u8 (0), Value.int IntKind.u8 (0),
            Value.int IntKind.u8 (0), Value.int IntKind.u8 (0), Value.int IntKind.u8 (0),
            Value.int IntKind.u8 (0), Value.int IntKind.u8 (0), Value.int IntKind.u8 (0),
            Value.int IntKind.u8 (0), Value.int IntKind.u8 (0), Value.int IntKind.u8 (0),
            Value.int IntKind.u8 (0), Value.int IntKind.u8 (0), Value.int IntKind.u8 (0),
            Value.int IntKind.u8 (0), Value.int IntKind.u8 (0), Value.int IntKind.u8 (0),
            Value.int IntKind.u8 (0), Value.int IntKind.u8 (0), Value.int IntKind.u8 (0),
            Value.int IntKind.u8 (0), Value.int IntKind.u8 (0), Value.int IntKind.u8 (0),
            Value.int IntKind.u8 (0), Value.int IntKind.u8 (0), Value.int IntKind.u8 (0),
            Value.int IntKind.u8 (0), Value.int IntKind.u8 (0), Value.int IntKind.u8 (0),
            Value.int IntKind.u8 (0), Value.int IntKind.u8 (0), Value.int IntKind.u8 (0),
            Value.int IntKind.u8 (0), Value.int IntKind.u8 (0), Value.int IntKind.u8 (0),
            Value.int IntKind.u8 (0), Value.int IntKind.u8 (0), Value.int IntKind.u8 (0),
            Value.int IntKind.u8 (0), Value.int IntKind.u8 (0), Value.int IntKind.u8 (0),
            Value.int IntKind.u8 (0), Value.int IntKind.u8 (0), Value.int IntKind.u8 (0),
            Value.int IntKind.u8 (0)] },
    some { k := TK.func, size := 1, bytes := 8, zero := [Value.nilFunc] },
    some { k := TK.func, size := 1, bytes := 8, zero := [Value.nilFunc] },
    some { k := TK.slice 122, size := 1, bytes := 24, zero := [Value.slice none 0 0] },
    some { k := TK.func, size := 1, bytes := 8, zero := [Value.nilFunc] },
    some { k := TK.struct [], size := 0, bytes := 0, zero := [] },
    some { k := TK.struct [], size := 0, bytes := 0, zero := [] },
    some { k := TK.struct [(0, 498)], size := 0, bytes := 0, zero := [] },
    some { k := TK.struct [(0, 498)], size := 0, bytes := 0, zero := [] },
    some { k := TK.struct [(0, 500)], size := 0, bytes := 0, zero := [] },
    some { k := TK.struct [(0, 500)], size := 0, bytes := 0, zero := [] },
    some { k := TK.func, size := 1, bytes := 8, zero := [Value.nilFunc] },
    some { k := TK.func, size := 1, bytes := 8, zero := [Value.nilFunc] },
    some { k := TK.ptr 486, size := 1, bytes := 8, zero := [Value.pointer none] },
    some { k := TK.func, size := 1, bytes := 8, zero := [Value.nilFunc] },
    some { k := TK.func, size := 1, bytes := 8, zero := [Value.nilFunc] },
    some
      { k := TK.struct [(0, 17), (1, 17), (2, 17), (3, 9)], size := 4, bytes := 40,
        zero := [Value.pointer none, Value.pointer none, Value.pointer none, Value.string ByteArray.empty] },
    some
      { k := TK.struct [(0, 17), (1, 17), (2, 17), (3, 9)], size := 4, bytes := 40,
        zero := [Value.pointer none, Value.pointer none, Value.pointer none, Value.string ByteArray.empty] },
    some { k := TK.arr 0 16, size := 0, bytes := 0, zero := [] },
    some { k := TK.struct [(0, 510)], size := 0, bytes := 0, zero := [] },
    some { k := TK.struct [(0, 510)], size := 0, bytes := 0, zero := [] },
    some { k := TK.int IntKind.u8, size := 1, bytes := 1, zero := [Value.int IntKind.u8 (0)] },
    some { k := TK.int IntKind.u8, size := 1, bytes := 1, zero := [Value.int IntKind.u8 (0)] },
    some { k := TK.func, size := 1, bytes := 8, zero := [Value.nilFunc] },
    some { k := TK.int IntKind.i32, size := 1, bytes := 4, zero := [Value.int IntKind.i32 (0)] },
    some { k := TK.int IntKind.i32, size := 1, bytes := 4, zero := [Value.int IntKind.i32 (0)] },
    some
      {
        k :=
          TK.struct
            [(0, 12), (1, 12), (2, 408), (3, 513), (4, 5), (5, 5), (6, 514), (7, 515), (8, 225), (9, 516), (10, 517)],
        size := 11, bytes := 48,
        zero :=
          [Value.int IntKind.u64 (0), Value.int IntKind.u64 (0), Value.int IntKind.u32 (0),
            Value.int IntKind.u8 (0), Value.int IntKind.u8 (0), Value.int IntKind.u8 (0),
            Value.int IntKind.u8 (0), Value.nilFunc, Value.pointer none, Value.int IntKind.i32 (0),
            Value.int IntKind.i32 (0)] },
    some
      {
        k :=
          TK.struct
            [(0, 12), (1, 12), (2, 408), (3, 513), (4, 5), (5, 5), (6, 514), (7, 515), (8, 225), (9, 516), (10, 517)],
        size := 11, bytes := 48,
        zero :=
          [Value.int IntKind.u64 (0), Value.int IntKind.u64 (0), Value.int IntKind.u32 (0),
            Value.int IntKind.u8 (0), Value.int IntKind.u8 (0), Value.int IntKind.u8 (0),
            Value.int IntKind.u8 (0), Value.nilFunc, Value.pointer none, Value.int IntKind.i32 (0),
            Value.int IntKind.i32 (0)] }]
set_option maxRecDepth 100000 in
theorem Tryz.tab_ok : TabOk Tryz.prog Tryz.tab := tabOk_of (n := 520) (by kernel_rfl)
def Tryz.tbs : Tbs := ⟨Tryz.tab, 2, 476, [228, 231, 314, 316, 354, 376, 435, 436, 437, 438, 439, 440, 441, 442, 443, 444, 445, 446, 447, 448, 449, 450, 451, 452, 453, 454, 455, 456, 457, 458, 464, 465, 466, 467, 468, 469, 470, 471, 472, 473, 474]⟩
theorem Tryz.tbs_ok : TbsOk Tryz.prog Tryz.tbs := ⟨by kernel_rfl, Tryz.tab_ok, fns_of (by kernel_rfl)⟩
end Go.Proofs
namespace Go.Proofs.YtaiialpdlobioaaGreatDoor
open Go.Sy Go.RowKit Go.ChangeShapes Go.WideShapes
theorem Tryz.own : ownKnob Tryz.prog.godebug = none := by kernel_rfl
theorem Tryz.laidOut : laidOutB Tryz.prog = true := by kernel_rfl
end Go.Proofs.YtaiialpdlobioaaGreatDoor
