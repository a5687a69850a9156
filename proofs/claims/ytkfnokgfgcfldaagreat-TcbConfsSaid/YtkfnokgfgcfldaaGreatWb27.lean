/-
  The example of layer 27, in pieces: what each call of begun and does makes of the heap (printed by N27p.lean), part 2.
-/
import Derived.Test.YtkfnokgfgcfldaaGreatWa27
set_option linter.unusedVariables false
namespace Go.Vex.Tcb
open Go.Proofs
def m9 : List (Nat × O) := [(1, .row [.int .u32 5, .int .u32 9, .int .u8 100, .int .u8 50, .int .u8 30, .int .u8 30, .int .i8 2, .bool false, .int .u8 10, .bool false, .ptr (some (6, 0)), .ptr (some (27, 0)), .slc none 0 true, .int .i64 0, .str [], .str [], .str [], .str [], .bool false, .bool false, .int .i64 0, .int .i64 0, .int .u32 6, .int .u32 10, .int .u32 241, .int .u32 241, .bool true, .bool true, .bool true] 1 false),
  (5, .row [.int .i64 0, .int .i64 0, .bool false, .int .i64 0] 1 false),
  (6, .row [.int .u32 1, .int .u16 1000, .int .u32 2, .int .u16 80, .int .u32 5, .int .i64 164, .int .i64 2, .int .i64 241, .int .i64 241, .bool false, .int .i64 10, .int .i64 0, .int .i64 8, .int .i64 16777216, .int .i64 0, .int .u8 4, .int .u8 0, .bool true, .ptr (some (7, 0)), .ptr (some (50, 0)), .ptr (some (5, 0)), .ptr (some (51, 0)), .bool true, .bool false, .bool false, .bool false, .bool false, .bool false, .bool false, .int .u32 0, .bool true, .int .i64 114, .int .i64 2, .int .u32 241, .int .u32 9, .int .u32 6, .bool false, .int .i64 0, .int .i64 (-1), .int .i64 (-1), .int .i64 (-1), .int .i64 (-1), .int .i64 (-1), .int .i64 0, .int .i64 0, .bool false, .int .u32 0, .int .i64 0, .slc none 0 true] 1 false),
  (7, .row [.int .u32 6, .slc none 0 true, .int .i64 0, .int .i64 241] 1 false),
  (16, .row [.ptr (some (1, 0))] 1 false),
  (26, .row [.int .i64 0, .int .i64 0, .bool false, .int .i64 0] 1 false),
  (27, .row [.int .u32 2, .int .u16 80, .int .u32 1, .int .u16 1000, .int .u32 9, .int .i64 114, .int .i64 2, .int .i64 241, .int .i64 241, .bool false, .int .i64 10, .int .i64 0, .int .i64 8, .int .i64 16777216, .int .i64 0, .int .u8 4, .int .u8 0, .bool true, .ptr (some (28, 0)), .ptr (some (32, 0)), .ptr (some (26, 0)), .ptr (some (33, 0)), .bool true, .bool false, .bool false, .bool false, .bool false, .bool false, .bool false, .int .u32 0, .bool true, .int .i64 114, .int .i64 2, .int .u32 240, .int .u32 6, .int .u32 10, .bool false, .int .i64 0, .int .i64 (-1), .int .i64 (-1), .int .i64 (-1), .int .i64 (-1), .int .i64 (-1), .int .i64 0, .int .i64 0, .bool false, .int .u32 0, .int .i64 0, .slc none 0 true] 1 false),
  (28, .row [.int .u32 10, .slc none 0 true, .int .i64 0, .int .i64 241] 1 false),
  (31, .map [] 0),
  (32, .row [.int .u32 6, .slc none 0 true, .map (some 31), .int .i64 0, .int .i64 241, .bool false, .int .u32 0] 1 false),
  (33, .row [.int .i64 114, .int .i64 456, .int .i64 1073741824, .int .u8 0, .int .i64 0, .int .i64 0, .ptr none] 1 false),
  (49, .map [] 0),
  (50, .row [.int .u32 10, .slc none 0 true, .map (some 49), .int .i64 0, .int .i64 241, .bool false, .int .u32 0] 1 false),
  (51, .row [.int .i64 114, .int .i64 456, .int .i64 1073741824, .int .u8 0, .int .i64 0, .int .i64 0, .ptr none] 1 false)]
def p9 : Piece := ⟨16, [.ptr (some (1, 0)), .agg [.int .u8 0, .bool false, .int .u16 0, .str []]], 61, m6, .tup [], 72, m9⟩
set_option maxRecDepth 100000 in
theorem ok9 : p9.ok Tryz.prog := Piece.of tok fok mixed quietF p9 (by kernel_rfl)
def m10 : List (Nat × O) := [(1, .row [.int .u32 5, .int .u32 9, .int .u8 100, .int .u8 50, .int .u8 30, .int .u8 30, .int .i8 2, .bool false, .int .u8 10, .bool false, .ptr (some (6, 0)), .ptr (some (27, 0)), .slc (some (80, 0)) 1 false, .int .i64 0, .str [104, 101, 108, 108, 111], .str [], .str [], .str [], .bool false, .bool false, .int .i64 0, .int .i64 0, .int .u32 6, .int .u32 10, .int .u32 241, .int .u32 241, .bool true, .bool true, .bool true] 1 false),
  (5, .row [.int .i64 0, .int .i64 0, .bool false, .int .i64 0] 1 false),
  (6, .row [.int .u32 1, .int .u16 1000, .int .u32 2, .int .u16 80, .int .u32 5, .int .i64 164, .int .i64 2, .int .i64 241, .int .i64 241, .bool false, .int .i64 10, .int .i64 0, .int .i64 8, .int .i64 16777216, .int .i64 0, .int .u8 4, .int .u8 0, .bool true, .ptr (some (7, 0)), .ptr (some (50, 0)), .ptr (some (5, 0)), .ptr (some (51, 0)), .bool true, .bool false, .bool false, .bool false, .bool false, .bool false, .bool false, .int .u32 0, .bool true, .int .i64 114, .int .i64 2, .int .u32 241, .int .u32 9, .int .u32 6, .bool false, .int .i64 0, .int .i64 1000, .int .i64 (-1), .int .i64 (-1), .int .i64 (-1), .int .i64 (-1), .int .i64 0, .int .i64 0, .bool true, .int .u32 11, .int .i64 0, .slc none 0 true] 1 false),
  (7, .row [.int .u32 6, .slc (some (73, 0)) 5 false, .int .i64 5, .int .i64 241] 1 false),
  (16, .row [.ptr (some (1, 0))] 1 false),
  (26, .row [.int .i64 0, .int .i64 0, .bool false, .int .i64 0] 1 false),
  (27, .row [.int .u32 2, .int .u16 80, .int .u32 1, .int .u16 1000, .int .u32 9, .int .i64 114, .int .i64 2, .int .i64 241, .int .i64 241, .bool false, .int .i64 10, .int .i64 0, .int .i64 8, .int .i64 16777216, .int .i64 0, .int .u8 4, .int .u8 0, .bool true, .ptr (some (28, 0)), .ptr (some (32, 0)), .ptr (some (26, 0)), .ptr (some (33, 0)), .bool true, .bool false, .bool false, .bool false, .bool false, .bool false, .bool false, .int .u32 0, .bool true, .int .i64 114, .int .i64 2, .int .u32 240, .int .u32 6, .int .u32 10, .bool false, .int .i64 0, .int .i64 (-1), .int .i64 (-1), .int .i64 (-1), .int .i64 (-1), .int .i64 (-1), .int .i64 0, .int .i64 0, .bool false, .int .u32 0, .int .i64 0, .slc none 0 true] 1 false),
  (28, .row [.int .u32 10, .slc none 0 true, .int .i64 0, .int .i64 241] 1 false),
  (31, .map [] 0),
  (32, .row [.int .u32 6, .slc none 0 true, .map (some 31), .int .i64 0, .int .i64 241, .bool false, .int .u32 0] 1 false),
  (33, .row [.int .i64 114, .int .i64 456, .int .i64 1073741824, .int .u8 0, .int .i64 0, .int .i64 0, .ptr none] 1 false),
  (49, .map [] 0),
  (50, .row [.int .u32 10, .slc none 0 true, .map (some 49), .int .i64 0, .int .i64 241, .bool false, .int .u32 0] 1 false),
  (51, .row [.int .i64 114, .int .i64 456, .int .i64 1073741824, .int .u8 0, .int .i64 0, .int .i64 0, .ptr none] 1 false),
  (73, .row [.int .u8 104, .int .u8 101, .int .u8 108, .int .u8 108, .int .u8 111] 1 false),
  (80, .row [.int .i64 1, .int .u32 1, .int .u16 1000, .int .u32 2, .int .u16 80, .int .u32 6, .int .u32 10, .int .u8 16, .int .u16 60, .int .u16 0, .int .u16 0, .int .i64 (-1), .str [104, 101, 108, 108, 111]] 13 false)]
def p10 : Piece := ⟨16, [.ptr (some (1, 0)), .agg [.int .u8 4, .bool false, .int .u16 0, .str [104, 101, 108, 108, 111]]], 72, m9, .tup [], 81, m10⟩
set_option maxRecDepth 100000 in
theorem ok10 : p10.ok Tryz.prog := Piece.of tok fok mixed quietF p10 (by kernel_rfl)
def m11 : List (Nat × O) := [(1, .row [.int .u32 5, .int .u32 9, .int .u8 100, .int .u8 50, .int .u8 30, .int .u8 30, .int .i8 2, .bool false, .int .u8 10, .bool false, .ptr (some (6, 0)), .ptr (some (27, 0)), .slc (some (89, 0)) 2 false, .int .i64 0, .str [104, 101, 108, 108, 111], .str [121, 111, 117], .str [], .str [], .bool false, .bool false, .int .i64 0, .int .i64 0, .int .u32 6, .int .u32 10, .int .u32 241, .int .u32 241, .bool true, .bool true, .bool true] 1 false),
  (5, .row [.int .i64 0, .int .i64 0, .bool false, .int .i64 0] 1 false),
  (6, .row [.int .u32 1, .int .u16 1000, .int .u32 2, .int .u16 80, .int .u32 5, .int .i64 164, .int .i64 2, .int .i64 241, .int .i64 241, .bool false, .int .i64 10, .int .i64 0, .int .i64 8, .int .i64 16777216, .int .i64 0, .int .u8 4, .int .u8 0, .bool true, .ptr (some (7, 0)), .ptr (some (50, 0)), .ptr (some (5, 0)), .ptr (some (51, 0)), .bool true, .bool false, .bool false, .bool false, .bool false, .bool false, .bool false, .int .u32 0, .bool true, .int .i64 114, .int .i64 2, .int .u32 241, .int .u32 9, .int .u32 6, .bool false, .int .i64 0, .int .i64 1000, .int .i64 (-1), .int .i64 (-1), .int .i64 (-1), .int .i64 (-1), .int .i64 0, .int .i64 0, .bool true, .int .u32 11, .int .i64 0, .slc none 0 true] 1 false),
  (7, .row [.int .u32 6, .slc (some (73, 0)) 5 false, .int .i64 5, .int .i64 241] 1 false),
  (16, .row [.ptr (some (1, 0))] 1 false),
  (26, .row [.int .i64 0, .int .i64 0, .bool false, .int .i64 0] 1 false),
  (27, .row [.int .u32 2, .int .u16 80, .int .u32 1, .int .u16 1000, .int .u32 9, .int .i64 114, .int .i64 2, .int .i64 241, .int .i64 241, .bool false, .int .i64 10, .int .i64 0, .int .i64 8, .int .i64 16777216, .int .i64 0, .int .u8 4, .int .u8 0, .bool true, .ptr (some (28, 0)), .ptr (some (32, 0)), .ptr (some (26, 0)), .ptr (some (33, 0)), .bool true, .bool false, .bool false, .bool false, .bool false, .bool false, .bool false, .int .u32 0, .bool true, .int .i64 114, .int .i64 2, .int .u32 240, .int .u32 6, .int .u32 10, .bool false, .int .i64 0, .int .i64 1000, .int .i64 (-1), .int .i64 (-1), .int .i64 (-1), .int .i64 (-1), .int .i64 0, .int .i64 0, .bool true, .int .u32 13, .int .i64 0, .slc none 0 true] 1 false),
  (28, .row [.int .u32 10, .slc (some (82, 0)) 3 false, .int .i64 3, .int .i64 241] 1 false),
  (31, .map [] 0),
  (32, .row [.int .u32 6, .slc none 0 true, .map (some 31), .int .i64 0, .int .i64 241, .bool false, .int .u32 0] 1 false),
  (33, .row [.int .i64 114, .int .i64 456, .int .i64 1073741824, .int .u8 0, .int .i64 0, .int .i64 0, .ptr none] 1 false),
  (49, .map [] 0),
  (50, .row [.int .u32 10, .slc none 0 true, .map (some 49), .int .i64 0, .int .i64 241, .bool false, .int .u32 0] 1 false),
  (51, .row [.int .i64 114, .int .i64 456, .int .i64 1073741824, .int .u8 0, .int .i64 0, .int .i64 0, .ptr none] 1 false),
  (73, .row [.int .u8 104, .int .u8 101, .int .u8 108, .int .u8 108, .int .u8 111] 1 false),
  (82, .row [.int .u8 121, .int .u8 111, .int .u8 117] 1 false),
  (89, .row [.int .i64 1, .int .u32 1, .int .u16 1000, .int .u32 2, .int .u16 80, .int .u32 6, .int .u32 10, .int .u8 16, .int .u16 60, .int .u16 0, .int .u16 0, .int .i64 (-1), .str [104, 101, 108, 108, 111], .int .i64 0, .int .u32 2, .int .u16 80, .int .u32 1, .int .u16 1000, .int .u32 10, .int .u32 6, .int .u8 16, .int .u16 60, .int .u16 0, .int .u16 0, .int .i64 (-1), .str [121, 111, 117]] 13 false)]
def p11 : Piece := ⟨16, [.ptr (some (1, 0)), .agg [.int .u8 4, .bool true, .int .u16 0, .str [121, 111, 117]]], 81, m10, .tup [], 90, m11⟩
set_option maxRecDepth 100000 in
theorem ok11 : p11.ok Tryz.prog := Piece.of tok fok mixed quietF p11 (by kernel_rfl)
def m12 : List (Nat × O) := [(1, .row [.int .u32 5, .int .u32 9, .int .u8 100, .int .u8 50, .int .u8 30, .int .u8 30, .int .i8 2, .bool false, .int .u8 10, .bool false, .ptr (some (6, 0)), .ptr (some (27, 0)), .slc (some (97, 0)) 3 false, .int .i64 0, .str [104, 101, 108, 108, 111], .str [121, 111, 117], .str [], .str [], .bool true, .bool false, .int .i64 0, .int .i64 0, .int .u32 6, .int .u32 10, .int .u32 241, .int .u32 241, .bool true, .bool true, .bool true] 1 false),
  (5, .row [.int .i64 0, .int .i64 0, .bool false, .int .i64 0] 1 false),
  (6, .row [.int .u32 1, .int .u16 1000, .int .u32 2, .int .u16 80, .int .u32 5, .int .i64 164, .int .i64 2, .int .i64 241, .int .i64 241, .bool false, .int .i64 10, .int .i64 0, .int .i64 8, .int .i64 16777216, .int .i64 0, .int .u8 5, .int .u8 0, .bool true, .ptr (some (7, 0)), .ptr (some (50, 0)), .ptr (some (5, 0)), .ptr (some (51, 0)), .bool true, .bool true, .bool true, .bool false, .bool false, .bool false, .bool false, .int .u32 0, .bool true, .int .i64 114, .int .i64 2, .int .u32 241, .int .u32 9, .int .u32 6, .bool false, .int .i64 0, .int .i64 1000, .int .i64 (-1), .int .i64 (-1), .int .i64 (-1), .int .i64 (-1), .int .i64 0, .int .i64 0, .bool true, .int .u32 11, .int .i64 0, .slc none 0 true] 1 false),
  (7, .row [.int .u32 6, .slc (some (73, 0)) 5 false, .int .i64 5, .int .i64 241] 1 false),
  (16, .row [.ptr (some (1, 0))] 1 false),
  (26, .row [.int .i64 0, .int .i64 0, .bool false, .int .i64 0] 1 false),
  (27, .row [.int .u32 2, .int .u16 80, .int .u32 1, .int .u16 1000, .int .u32 9, .int .i64 114, .int .i64 2, .int .i64 241, .int .i64 241, .bool false, .int .i64 10, .int .i64 0, .int .i64 8, .int .i64 16777216, .int .i64 0, .int .u8 4, .int .u8 0, .bool true, .ptr (some (28, 0)), .ptr (some (32, 0)), .ptr (some (26, 0)), .ptr (some (33, 0)), .bool true, .bool false, .bool false, .bool false, .bool false, .bool false, .bool false, .int .u32 0, .bool true, .int .i64 114, .int .i64 2, .int .u32 240, .int .u32 6, .int .u32 10, .bool false, .int .i64 0, .int .i64 1000, .int .i64 (-1), .int .i64 (-1), .int .i64 (-1), .int .i64 (-1), .int .i64 0, .int .i64 0, .bool true, .int .u32 13, .int .i64 0, .slc none 0 true] 1 false),
  (28, .row [.int .u32 10, .slc (some (82, 0)) 3 false, .int .i64 3, .int .i64 241] 1 false),
  (31, .map [] 0),
  (32, .row [.int .u32 6, .slc none 0 true, .map (some 31), .int .i64 0, .int .i64 241, .bool false, .int .u32 0] 1 false),
  (33, .row [.int .i64 114, .int .i64 456, .int .i64 1073741824, .int .u8 0, .int .i64 0, .int .i64 0, .ptr none] 1 false),
  (49, .map [] 0),
  (50, .row [.int .u32 10, .slc none 0 true, .map (some 49), .int .i64 0, .int .i64 241, .bool false, .int .u32 0] 1 false),
  (51, .row [.int .i64 114, .int .i64 456, .int .i64 1073741824, .int .u8 0, .int .i64 0, .int .i64 0, .ptr none] 1 false),
  (73, .row [.int .u8 104, .int .u8 101, .int .u8 108, .int .u8 108, .int .u8 111] 1 false),
  (82, .row [.int .u8 121, .int .u8 111, .int .u8 117] 1 false),
  (97, .row [.int .i64 1, .int .u32 1, .int .u16 1000, .int .u32 2, .int .u16 80, .int .u32 6, .int .u32 10, .int .u8 16, .int .u16 60, .int .u16 0, .int .u16 0, .int .i64 (-1), .str [104, 101, 108, 108, 111], .int .i64 0, .int .u32 2, .int .u16 80, .int .u32 1, .int .u16 1000, .int .u32 10, .int .u32 6, .int .u8 16, .int .u16 60, .int .u16 0, .int .u16 0, .int .i64 (-1), .str [121, 111, 117], .int .i64 1, .int .u32 1, .int .u16 1000, .int .u32 2, .int .u16 80, .int .u32 11, .int .u32 10, .int .u8 17, .int .u16 60, .int .u16 0, .int .u16 0, .int .i64 (-1), .str []] 13 false)]
def p12 : Piece := ⟨16, [.ptr (some (1, 0)), .agg [.int .u8 6, .bool false, .int .u16 0, .str []]], 90, m11, .tup [], 98, m12⟩
set_option maxRecDepth 100000 in
theorem ok12 : p12.ok Tryz.prog := Piece.of tok fok mixed quietF p12 (by kernel_rfl)
def m13 : List (Nat × O) := [(1, .row [.int .u32 5, .int .u32 9, .int .u8 100, .int .u8 50, .int .u8 30, .int .u8 30, .int .i8 2, .bool false, .int .u8 10, .bool false, .ptr (some (6, 0)), .ptr (some (27, 0)), .slc (some (105, 0)) 4 false, .int .i64 0, .str [104, 101, 108, 108, 111], .str [121, 111, 117], .str [], .str [], .bool true, .bool true, .int .i64 0, .int .i64 0, .int .u32 6, .int .u32 10, .int .u32 241, .int .u32 241, .bool true, .bool true, .bool true] 1 false),
  (5, .row [.int .i64 0, .int .i64 0, .bool false, .int .i64 0] 1 false),
  (6, .row [.int .u32 1, .int .u16 1000, .int .u32 2, .int .u16 80, .int .u32 5, .int .i64 164, .int .i64 2, .int .i64 241, .int .i64 241, .bool false, .int .i64 10, .int .i64 0, .int .i64 8, .int .i64 16777216, .int .i64 0, .int .u8 5, .int .u8 0, .bool true, .ptr (some (7, 0)), .ptr (some (50, 0)), .ptr (some (5, 0)), .ptr (some (51, 0)), .bool true, .bool true, .bool true, .bool false, .bool false, .bool false, .bool false, .int .u32 0, .bool true, .int .i64 114, .int .i64 2, .int .u32 241, .int .u32 9, .int .u32 6, .bool false, .int .i64 0, .int .i64 1000, .int .i64 (-1), .int .i64 (-1), .int .i64 (-1), .int .i64 (-1), .int .i64 0, .int .i64 0, .bool true, .int .u32 11, .int .i64 0, .slc none 0 true] 1 false),
  (7, .row [.int .u32 6, .slc (some (73, 0)) 5 false, .int .i64 5, .int .i64 241] 1 false),
  (16, .row [.ptr (some (1, 0))] 1 false),
  (26, .row [.int .i64 0, .int .i64 0, .bool false, .int .i64 0] 1 false),
  (27, .row [.int .u32 2, .int .u16 80, .int .u32 1, .int .u16 1000, .int .u32 9, .int .i64 114, .int .i64 2, .int .i64 241, .int .i64 241, .bool false, .int .i64 10, .int .i64 0, .int .i64 8, .int .i64 16777216, .int .i64 0, .int .u8 5, .int .u8 0, .bool true, .ptr (some (28, 0)), .ptr (some (32, 0)), .ptr (some (26, 0)), .ptr (some (33, 0)), .bool true, .bool true, .bool true, .bool false, .bool false, .bool false, .bool false, .int .u32 0, .bool true, .int .i64 114, .int .i64 2, .int .u32 240, .int .u32 6, .int .u32 10, .bool false, .int .i64 0, .int .i64 1000, .int .i64 (-1), .int .i64 (-1), .int .i64 (-1), .int .i64 (-1), .int .i64 0, .int .i64 0, .bool true, .int .u32 13, .int .i64 0, .slc none 0 true] 1 false),
  (28, .row [.int .u32 10, .slc (some (82, 0)) 3 false, .int .i64 3, .int .i64 241] 1 false),
  (31, .map [] 0),
  (32, .row [.int .u32 6, .slc none 0 true, .map (some 31), .int .i64 0, .int .i64 241, .bool false, .int .u32 0] 1 false),
  (33, .row [.int .i64 114, .int .i64 456, .int .i64 1073741824, .int .u8 0, .int .i64 0, .int .i64 0, .ptr none] 1 false),
  (49, .map [] 0),
  (50, .row [.int .u32 10, .slc none 0 true, .map (some 49), .int .i64 0, .int .i64 241, .bool false, .int .u32 0] 1 false),
  (51, .row [.int .i64 114, .int .i64 456, .int .i64 1073741824, .int .u8 0, .int .i64 0, .int .i64 0, .ptr none] 1 false),
  (73, .row [.int .u8 104, .int .u8 101, .int .u8 108, .int .u8 108, .int .u8 111] 1 false),
  (82, .row [.int .u8 121, .int .u8 111, .int .u8 117] 1 false),
  (105, .row [.int .i64 1, .int .u32 1, .int .u16 1000, .int .u32 2, .int .u16 80, .int .u32 6, .int .u32 10, .int .u8 16, .int .u16 60, .int .u16 0, .int .u16 0, .int .i64 (-1), .str [104, 101, 108, 108, 111], .int .i64 0, .int .u32 2, .int .u16 80, .int .u32 1, .int .u16 1000, .int .u32 10, .int .u32 6, .int .u8 16, .int .u16 60, .int .u16 0, .int .u16 0, .int .i64 (-1), .str [121, 111, 117], .int .i64 1, .int .u32 1, .int .u16 1000, .int .u32 2, .int .u16 80, .int .u32 11, .int .u32 10, .int .u8 17, .int .u16 60, .int .u16 0, .int .u16 0, .int .i64 (-1), .str [], .int .i64 0, .int .u32 2, .int .u16 80, .int .u32 1, .int .u16 1000, .int .u32 13, .int .u32 6, .int .u8 17, .int .u16 60, .int .u16 0, .int .u16 0, .int .i64 (-1), .str []] 13 false)]
def p13 : Piece := ⟨16, [.ptr (some (1, 0)), .agg [.int .u8 6, .bool true, .int .u16 0, .str []]], 98, m12, .tup [], 106, m13⟩
set_option maxRecDepth 100000 in
theorem ok13 : p13.ok Tryz.prog := Piece.of tok fok mixed quietF p13 (by kernel_rfl)
def p14 : Piece := ⟨16, [.ptr (some (1, 0)), .agg [.int .u8 5, .bool false, .int .u16 9999, .str []]], 106, m13, .tup [], 107, m13⟩
set_option maxRecDepth 100000 in
theorem ok14 : p14.ok Tryz.prog := Piece.of tok fok mixed quietF p14 (by kernel_rfl)
def p15 : Piece := ⟨16, [.ptr (some (1, 0)), .agg [.int .u8 5, .bool true, .int .u16 9999, .str []]], 107, m13, .tup [], 108, m13⟩
set_option maxRecDepth 100000 in
theorem ok15 : p15.ok Tryz.prog := Piece.of tok fok mixed quietF p15 (by kernel_rfl)
def m16 : List (Nat × O) := [(1, .row [.int .u32 5, .int .u32 9, .int .u8 100, .int .u8 50, .int .u8 30, .int .u8 30, .int .i8 2, .bool false, .int .u8 10, .bool false, .ptr (some (6, 0)), .ptr (some (27, 0)), .slc (some (110, 0)) 3 false, .int .i64 0, .str [104, 101, 108, 108, 111], .str [121, 111, 117], .str [], .str [], .bool true, .bool true, .int .i64 0, .int .i64 0, .int .u32 6, .int .u32 10, .int .u32 241, .int .u32 241, .bool true, .bool true, .bool true] 1 false),
  (5, .row [.int .i64 0, .int .i64 0, .bool false, .int .i64 0] 1 false),
  (6, .row [.int .u32 1, .int .u16 1000, .int .u32 2, .int .u16 80, .int .u32 5, .int .i64 164, .int .i64 2, .int .i64 241, .int .i64 241, .bool false, .int .i64 10, .int .i64 0, .int .i64 8, .int .i64 16777216, .int .i64 0, .int .u8 5, .int .u8 0, .bool true, .ptr (some (7, 0)), .ptr (some (50, 0)), .ptr (some (5, 0)), .ptr (some (51, 0)), .bool true, .bool true, .bool true, .bool false, .bool false, .bool false, .bool false, .int .u32 0, .bool true, .int .i64 114, .int .i64 2, .int .u32 241, .int .u32 9, .int .u32 6, .bool false, .int .i64 0, .int .i64 1000, .int .i64 (-1), .int .i64 (-1), .int .i64 (-1), .int .i64 (-1), .int .i64 0, .int .i64 0, .bool true, .int .u32 11, .int .i64 0, .slc none 0 true] 1 false),
  (7, .row [.int .u32 6, .slc (some (73, 0)) 5 false, .int .i64 5, .int .i64 241] 1 false),
  (16, .row [.ptr (some (1, 0))] 1 false),
  (26, .row [.int .i64 0, .int .i64 0, .bool false, .int .i64 0] 1 false),
  (27, .row [.int .u32 2, .int .u16 80, .int .u32 1, .int .u16 1000, .int .u32 9, .int .i64 114, .int .i64 2, .int .i64 241, .int .i64 241, .bool false, .int .i64 10, .int .i64 0, .int .i64 8, .int .i64 16777216, .int .i64 0, .int .u8 5, .int .u8 0, .bool true, .ptr (some (28, 0)), .ptr (some (32, 0)), .ptr (some (26, 0)), .ptr (some (33, 0)), .bool true, .bool true, .bool true, .bool false, .bool false, .bool false, .bool false, .int .u32 0, .bool true, .int .i64 114, .int .i64 2, .int .u32 240, .int .u32 6, .int .u32 10, .bool false, .int .i64 5, .int .i64 1000, .int .i64 (-1), .int .i64 10, .int .i64 (-1), .int .i64 (-1), .int .i64 0, .int .i64 0, .bool true, .int .u32 13, .int .i64 0, .slc none 0 true] 1 false),
  (28, .row [.int .u32 10, .slc (some (82, 0)) 3 false, .int .i64 3, .int .i64 241] 1 false),
  (31, .map [] 0),
  (32, .row [.int .u32 11, .slc (some (129, 0)) 5 false, .map (some 31), .int .i64 0, .int .i64 241, .bool false, .int .u32 0] 1 false),
  (33, .row [.int .i64 114, .int .i64 456, .int .i64 1073741824, .int .u8 0, .int .i64 0, .int .i64 0, .ptr none] 1 false),
  (49, .map [] 0),
  (50, .row [.int .u32 10, .slc none 0 true, .map (some 49), .int .i64 0, .int .i64 241, .bool false, .int .u32 0] 1 false),
  (51, .row [.int .i64 114, .int .i64 456, .int .i64 1073741824, .int .u8 0, .int .i64 0, .int .i64 0, .ptr none] 1 false),
  (73, .row [.int .u8 104, .int .u8 101, .int .u8 108, .int .u8 108, .int .u8 111] 1 false),
  (82, .row [.int .u8 121, .int .u8 111, .int .u8 117] 1 false),
  (110, .row [.int .i64 0, .int .u32 2, .int .u16 80, .int .u32 1, .int .u16 1000, .int .u32 10, .int .u32 6, .int .u8 16, .int .u16 60, .int .u16 0, .int .u16 0, .int .i64 (-1), .str [121, 111, 117], .int .i64 1, .int .u32 1, .int .u16 1000, .int .u32 2, .int .u16 80, .int .u32 11, .int .u32 10, .int .u8 17, .int .u16 60, .int .u16 0, .int .u16 0, .int .i64 (-1), .str [], .int .i64 0, .int .u32 2, .int .u16 80, .int .u32 1, .int .u16 1000, .int .u32 13, .int .u32 6, .int .u8 17, .int .u16 60, .int .u16 0, .int .u16 0, .int .i64 (-1), .str []] 13 false),
  (129, .row [.int .u8 104, .int .u8 101, .int .u8 108, .int .u8 108, .int .u8 111] 1 false)]
def p16 : Piece := ⟨16, [.ptr (some (1, 0)), .agg [.int .u8 0, .bool false, .int .u16 0, .str []]], 108, m13, .tup [], 132, m16⟩
set_option maxRecDepth 100000 in
theorem ok16 : p16.ok Tryz.prog := Piece.of tok fok mixed quietF p16 (by kernel_rfl)
def p17 : Piece := ⟨16, [.ptr (some (1, 0)), .agg [.int .u8 5, .bool false, .int .u16 9999, .str []]], 132, m16, .tup [], 133, m16⟩
set_option maxRecDepth 100000 in
theorem ok17 : p17.ok Tryz.prog := Piece.of tok fok mixed quietF p17 (by kernel_rfl)
end Go.Vex.Tcb
