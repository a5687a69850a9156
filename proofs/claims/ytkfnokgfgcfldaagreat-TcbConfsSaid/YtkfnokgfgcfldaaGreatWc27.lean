/-
  The example of layer 27, in pieces: what each call of begun and does makes of the heap (printed by N27p.lean), part 3.
-/
import Derived.Test.YtkfnokgfgcfldaaGreatWb27
set_option linter.unusedVariables false
namespace Go.Vex.Tcb
open Go.Proofs
def m18 : List (Nat × O) := [(1, .row [.int .u32 5, .int .u32 9, .int .u8 100, .int .u8 50, .int .u8 30, .int .u8 30, .int .i8 2, .bool false, .int .u8 10, .bool false, .ptr (some (6, 0)), .ptr (some (27, 0)), .slc (some (110, 0)) 3 false, .int .i64 0, .str [104, 101, 108, 108, 111], .str [121, 111, 117], .str [], .str [104, 101, 108, 108, 111], .bool true, .bool true, .int .i64 0, .int .i64 0, .int .u32 6, .int .u32 10, .int .u32 241, .int .u32 241, .bool true, .bool true, .bool true] 1 false),
  (5, .row [.int .i64 0, .int .i64 0, .bool false, .int .i64 0] 1 false),
  (6, .row [.int .u32 1, .int .u16 1000, .int .u32 2, .int .u16 80, .int .u32 5, .int .i64 164, .int .i64 2, .int .i64 241, .int .i64 241, .bool false, .int .i64 10, .int .i64 0, .int .i64 8, .int .i64 16777216, .int .i64 0, .int .u8 5, .int .u8 0, .bool true, .ptr (some (7, 0)), .ptr (some (50, 0)), .ptr (some (5, 0)), .ptr (some (51, 0)), .bool true, .bool true, .bool true, .bool false, .bool false, .bool false, .bool false, .int .u32 0, .bool true, .int .i64 114, .int .i64 2, .int .u32 241, .int .u32 9, .int .u32 6, .bool false, .int .i64 0, .int .i64 1000, .int .i64 (-1), .int .i64 (-1), .int .i64 (-1), .int .i64 (-1), .int .i64 0, .int .i64 0, .bool true, .int .u32 11, .int .i64 0, .slc none 0 true] 1 false),
  (7, .row [.int .u32 6, .slc (some (73, 0)) 5 false, .int .i64 5, .int .i64 241] 1 false),
  (16, .row [.ptr (some (1, 0))] 1 false),
  (26, .row [.int .i64 0, .int .i64 0, .bool false, .int .i64 0] 1 false),
  (27, .row [.int .u32 2, .int .u16 80, .int .u32 1, .int .u16 1000, .int .u32 9, .int .i64 114, .int .i64 2, .int .i64 241, .int .i64 241, .bool false, .int .i64 10, .int .i64 0, .int .i64 8, .int .i64 16777216, .int .i64 0, .int .u8 5, .int .u8 0, .bool true, .ptr (some (28, 0)), .ptr (some (32, 0)), .ptr (some (26, 0)), .ptr (some (33, 0)), .bool true, .bool true, .bool true, .bool false, .bool false, .bool false, .bool false, .int .u32 0, .bool true, .int .i64 114, .int .i64 2, .int .u32 240, .int .u32 6, .int .u32 10, .bool false, .int .i64 5, .int .i64 1000, .int .i64 (-1), .int .i64 10, .int .i64 (-1), .int .i64 (-1), .int .i64 0, .int .i64 0, .bool true, .int .u32 13, .int .i64 0, .slc none 0 true] 1 false),
  (28, .row [.int .u32 10, .slc (some (82, 0)) 3 false, .int .i64 3, .int .i64 241] 1 false),
  (31, .map [] 0),
  (32, .row [.int .u32 11, .slc (some (129, 5)) 0 false, .map (some 31), .int .i64 0, .int .i64 241, .bool false, .int .u32 0] 1 false),
  (33, .row [.int .i64 114, .int .i64 456, .int .i64 1073741824, .int .u8 0, .int .i64 0, .int .i64 0, .ptr none] 1 false),
  (49, .map [] 0),
  (50, .row [.int .u32 10, .slc none 0 true, .map (some 49), .int .i64 0, .int .i64 241, .bool false, .int .u32 0] 1 false),
  (51, .row [.int .i64 114, .int .i64 456, .int .i64 1073741824, .int .u8 0, .int .i64 0, .int .i64 0, .ptr none] 1 false),
  (73, .row [.int .u8 104, .int .u8 101, .int .u8 108, .int .u8 108, .int .u8 111] 1 false),
  (82, .row [.int .u8 121, .int .u8 111, .int .u8 117] 1 false),
  (110, .row [.int .i64 0, .int .u32 2, .int .u16 80, .int .u32 1, .int .u16 1000, .int .u32 10, .int .u32 6, .int .u8 16, .int .u16 60, .int .u16 0, .int .u16 0, .int .i64 (-1), .str [121, 111, 117], .int .i64 1, .int .u32 1, .int .u16 1000, .int .u32 2, .int .u16 80, .int .u32 11, .int .u32 10, .int .u8 17, .int .u16 60, .int .u16 0, .int .u16 0, .int .i64 (-1), .str [], .int .i64 0, .int .u32 2, .int .u16 80, .int .u32 1, .int .u16 1000, .int .u32 13, .int .u32 6, .int .u8 17, .int .u16 60, .int .u16 0, .int .u16 0, .int .i64 (-1), .str []] 13 false),
  (129, .row [.int .u8 104, .int .u8 101, .int .u8 108, .int .u8 108, .int .u8 111] 1 false)]
def p18 : Piece := ⟨16, [.ptr (some (1, 0)), .agg [.int .u8 5, .bool true, .int .u16 9999, .str []]], 133, m16, .tup [], 134, m18⟩
set_option maxRecDepth 100000 in
theorem ok18 : p18.ok Tryz.prog := Piece.of tok fok mixed quietF p18 (by kernel_rfl)
def m19 : List (Nat × O) := [(1, .row [.int .u32 5, .int .u32 9, .int .u8 100, .int .u8 50, .int .u8 30, .int .u8 30, .int .i8 2, .bool false, .int .u8 10, .bool false, .ptr (some (6, 0)), .ptr (some (27, 0)), .slc (some (136, 0)) 2 false, .int .i64 0, .str [104, 101, 108, 108, 111], .str [121, 111, 117], .str [], .str [104, 101, 108, 108, 111], .bool true, .bool true, .int .i64 0, .int .i64 0, .int .u32 6, .int .u32 10, .int .u32 241, .int .u32 241, .bool true, .bool true, .bool true] 1 false),
  (5, .row [.int .i64 0, .int .i64 0, .bool false, .int .i64 0] 1 false),
  (6, .row [.int .u32 1, .int .u16 1000, .int .u32 2, .int .u16 80, .int .u32 5, .int .i64 164, .int .i64 2, .int .i64 241, .int .i64 241, .bool false, .int .i64 10, .int .i64 0, .int .i64 8, .int .i64 16777216, .int .i64 0, .int .u8 5, .int .u8 0, .bool true, .ptr (some (7, 0)), .ptr (some (50, 0)), .ptr (some (5, 0)), .ptr (some (51, 0)), .bool true, .bool true, .bool true, .bool false, .bool false, .bool false, .bool false, .int .u32 0, .bool true, .int .i64 114, .int .i64 2, .int .u32 240, .int .u32 10, .int .u32 6, .bool false, .int .i64 3, .int .i64 1000, .int .i64 (-1), .int .i64 10, .int .i64 (-1), .int .i64 (-1), .int .i64 0, .int .i64 0, .bool true, .int .u32 11, .int .i64 0, .slc none 0 true] 1 false),
  (7, .row [.int .u32 6, .slc (some (73, 0)) 5 false, .int .i64 5, .int .i64 241] 1 false),
  (16, .row [.ptr (some (1, 0))] 1 false),
  (26, .row [.int .i64 0, .int .i64 0, .bool false, .int .i64 0] 1 false),
  (27, .row [.int .u32 2, .int .u16 80, .int .u32 1, .int .u16 1000, .int .u32 9, .int .i64 114, .int .i64 2, .int .i64 241, .int .i64 241, .bool false, .int .i64 10, .int .i64 0, .int .i64 8, .int .i64 16777216, .int .i64 0, .int .u8 5, .int .u8 0, .bool true, .ptr (some (28, 0)), .ptr (some (32, 0)), .ptr (some (26, 0)), .ptr (some (33, 0)), .bool true, .bool true, .bool true, .bool false, .bool false, .bool false, .bool false, .int .u32 0, .bool true, .int .i64 114, .int .i64 2, .int .u32 240, .int .u32 6, .int .u32 10, .bool false, .int .i64 5, .int .i64 1000, .int .i64 (-1), .int .i64 10, .int .i64 (-1), .int .i64 (-1), .int .i64 0, .int .i64 0, .bool true, .int .u32 13, .int .i64 0, .slc none 0 true] 1 false),
  (28, .row [.int .u32 10, .slc (some (82, 0)) 3 false, .int .i64 3, .int .i64 241] 1 false),
  (31, .map [] 0),
  (32, .row [.int .u32 11, .slc (some (129, 5)) 0 false, .map (some 31), .int .i64 0, .int .i64 241, .bool false, .int .u32 0] 1 false),
  (33, .row [.int .i64 114, .int .i64 456, .int .i64 1073741824, .int .u8 0, .int .i64 0, .int .i64 0, .ptr none] 1 false),
  (49, .map [] 0),
  (50, .row [.int .u32 13, .slc (some (151, 0)) 3 false, .map (some 49), .int .i64 0, .int .i64 241, .bool false, .int .u32 0] 1 false),
  (51, .row [.int .i64 114, .int .i64 456, .int .i64 1073741824, .int .u8 0, .int .i64 0, .int .i64 0, .ptr none] 1 false),
  (73, .row [.int .u8 104, .int .u8 101, .int .u8 108, .int .u8 108, .int .u8 111] 1 false),
  (82, .row [.int .u8 121, .int .u8 111, .int .u8 117] 1 false),
  (129, .row [.int .u8 104, .int .u8 101, .int .u8 108, .int .u8 108, .int .u8 111] 1 false),
  (136, .row [.int .i64 1, .int .u32 1, .int .u16 1000, .int .u32 2, .int .u16 80, .int .u32 11, .int .u32 10, .int .u8 17, .int .u16 60, .int .u16 0, .int .u16 0, .int .i64 (-1), .str [], .int .i64 0, .int .u32 2, .int .u16 80, .int .u32 1, .int .u16 1000, .int .u32 13, .int .u32 6, .int .u8 17, .int .u16 60, .int .u16 0, .int .u16 0, .int .i64 (-1), .str []] 13 false),
  (151, .row [.int .u8 121, .int .u8 111, .int .u8 117] 1 false)]
def p19 : Piece := ⟨16, [.ptr (some (1, 0)), .agg [.int .u8 0, .bool false, .int .u16 0, .str []]], 134, m18, .tup [], 154, m19⟩
set_option maxRecDepth 100000 in
theorem ok19 : p19.ok Tryz.prog := Piece.of tok fok mixed quietF p19 (by kernel_rfl)
def m20 : List (Nat × O) := [(1, .row [.int .u32 5, .int .u32 9, .int .u8 100, .int .u8 50, .int .u8 30, .int .u8 30, .int .i8 2, .bool false, .int .u8 10, .bool false, .ptr (some (6, 0)), .ptr (some (27, 0)), .slc (some (136, 0)) 2 false, .int .i64 0, .str [104, 101, 108, 108, 111], .str [121, 111, 117], .str [121, 111, 117], .str [104, 101, 108, 108, 111], .bool true, .bool true, .int .i64 0, .int .i64 0, .int .u32 6, .int .u32 10, .int .u32 241, .int .u32 241, .bool true, .bool true, .bool true] 1 false),
  (5, .row [.int .i64 0, .int .i64 0, .bool false, .int .i64 0] 1 false),
  (6, .row [.int .u32 1, .int .u16 1000, .int .u32 2, .int .u16 80, .int .u32 5, .int .i64 164, .int .i64 2, .int .i64 241, .int .i64 241, .bool false, .int .i64 10, .int .i64 0, .int .i64 8, .int .i64 16777216, .int .i64 0, .int .u8 5, .int .u8 0, .bool true, .ptr (some (7, 0)), .ptr (some (50, 0)), .ptr (some (5, 0)), .ptr (some (51, 0)), .bool true, .bool true, .bool true, .bool false, .bool false, .bool false, .bool false, .int .u32 0, .bool true, .int .i64 114, .int .i64 2, .int .u32 240, .int .u32 10, .int .u32 6, .bool false, .int .i64 3, .int .i64 1000, .int .i64 (-1), .int .i64 10, .int .i64 (-1), .int .i64 (-1), .int .i64 0, .int .i64 0, .bool true, .int .u32 11, .int .i64 0, .slc none 0 true] 1 false),
  (7, .row [.int .u32 6, .slc (some (73, 0)) 5 false, .int .i64 5, .int .i64 241] 1 false),
  (16, .row [.ptr (some (1, 0))] 1 false),
  (26, .row [.int .i64 0, .int .i64 0, .bool false, .int .i64 0] 1 false),
  (27, .row [.int .u32 2, .int .u16 80, .int .u32 1, .int .u16 1000, .int .u32 9, .int .i64 114, .int .i64 2, .int .i64 241, .int .i64 241, .bool false, .int .i64 10, .int .i64 0, .int .i64 8, .int .i64 16777216, .int .i64 0, .int .u8 5, .int .u8 0, .bool true, .ptr (some (28, 0)), .ptr (some (32, 0)), .ptr (some (26, 0)), .ptr (some (33, 0)), .bool true, .bool true, .bool true, .bool false, .bool false, .bool false, .bool false, .int .u32 0, .bool true, .int .i64 114, .int .i64 2, .int .u32 240, .int .u32 6, .int .u32 10, .bool false, .int .i64 5, .int .i64 1000, .int .i64 (-1), .int .i64 10, .int .i64 (-1), .int .i64 (-1), .int .i64 0, .int .i64 0, .bool true, .int .u32 13, .int .i64 0, .slc none 0 true] 1 false),
  (28, .row [.int .u32 10, .slc (some (82, 0)) 3 false, .int .i64 3, .int .i64 241] 1 false),
  (31, .map [] 0),
  (32, .row [.int .u32 11, .slc (some (129, 5)) 0 false, .map (some 31), .int .i64 0, .int .i64 241, .bool false, .int .u32 0] 1 false),
  (33, .row [.int .i64 114, .int .i64 456, .int .i64 1073741824, .int .u8 0, .int .i64 0, .int .i64 0, .ptr none] 1 false),
  (49, .map [] 0),
  (50, .row [.int .u32 13, .slc (some (151, 3)) 0 false, .map (some 49), .int .i64 0, .int .i64 241, .bool false, .int .u32 0] 1 false),
  (51, .row [.int .i64 114, .int .i64 456, .int .i64 1073741824, .int .u8 0, .int .i64 0, .int .i64 0, .ptr none] 1 false),
  (73, .row [.int .u8 104, .int .u8 101, .int .u8 108, .int .u8 108, .int .u8 111] 1 false),
  (82, .row [.int .u8 121, .int .u8 111, .int .u8 117] 1 false),
  (129, .row [.int .u8 104, .int .u8 101, .int .u8 108, .int .u8 108, .int .u8 111] 1 false),
  (136, .row [.int .i64 1, .int .u32 1, .int .u16 1000, .int .u32 2, .int .u16 80, .int .u32 11, .int .u32 10, .int .u8 17, .int .u16 60, .int .u16 0, .int .u16 0, .int .i64 (-1), .str [], .int .i64 0, .int .u32 2, .int .u16 80, .int .u32 1, .int .u16 1000, .int .u32 13, .int .u32 6, .int .u8 17, .int .u16 60, .int .u16 0, .int .u16 0, .int .i64 (-1), .str []] 13 false),
  (151, .row [.int .u8 121, .int .u8 111, .int .u8 117] 1 false)]
def p20 : Piece := ⟨16, [.ptr (some (1, 0)), .agg [.int .u8 5, .bool false, .int .u16 9999, .str []]], 154, m19, .tup [], 155, m20⟩
set_option maxRecDepth 100000 in
theorem ok20 : p20.ok Tryz.prog := Piece.of tok fok mixed quietF p20 (by kernel_rfl)
def p21 : Piece := ⟨16, [.ptr (some (1, 0)), .agg [.int .u8 5, .bool true, .int .u16 9999, .str []]], 155, m20, .tup [], 156, m20⟩
set_option maxRecDepth 100000 in
theorem ok21 : p21.ok Tryz.prog := Piece.of tok fok mixed quietF p21 (by kernel_rfl)
def m22 : List (Nat × O) := [(1, .row [.int .u32 5, .int .u32 9, .int .u8 100, .int .u8 50, .int .u8 30, .int .u8 30, .int .i8 2, .bool false, .int .u8 10, .bool false, .ptr (some (6, 0)), .ptr (some (27, 0)), .slc (some (175, 0)) 2 false, .int .i64 0, .str [104, 101, 108, 108, 111], .str [121, 111, 117], .str [121, 111, 117], .str [104, 101, 108, 108, 111], .bool true, .bool true, .int .i64 0, .int .i64 0, .int .u32 12, .int .u32 10, .int .u32 241, .int .u32 241, .bool true, .bool true, .bool true] 1 false),
  (5, .row [.int .i64 0, .int .i64 0, .bool false, .int .i64 0] 1 false),
  (6, .row [.int .u32 1, .int .u16 1000, .int .u32 2, .int .u16 80, .int .u32 5, .int .i64 164, .int .i64 2, .int .i64 241, .int .i64 241, .bool false, .int .i64 10, .int .i64 0, .int .i64 8, .int .i64 16777216, .int .i64 0, .int .u8 5, .int .u8 0, .bool true, .ptr (some (7, 0)), .ptr (some (50, 0)), .ptr (some (5, 0)), .ptr (some (51, 0)), .bool true, .bool true, .bool true, .bool false, .bool false, .bool false, .bool false, .int .u32 0, .bool true, .int .i64 114, .int .i64 2, .int .u32 240, .int .u32 10, .int .u32 6, .bool false, .int .i64 3, .int .i64 1000, .int .i64 (-1), .int .i64 10, .int .i64 (-1), .int .i64 (-1), .int .i64 0, .int .i64 0, .bool true, .int .u32 11, .int .i64 0, .slc none 0 true] 1 false),
  (7, .row [.int .u32 6, .slc (some (73, 0)) 5 false, .int .i64 5, .int .i64 241] 1 false),
  (16, .row [.ptr (some (1, 0))] 1 false),
  (26, .row [.int .i64 0, .int .i64 0, .bool false, .int .i64 0] 1 false),
  (27, .row [.int .u32 2, .int .u16 80, .int .u32 1, .int .u16 1000, .int .u32 9, .int .i64 114, .int .i64 2, .int .i64 241, .int .i64 241, .bool false, .int .i64 10, .int .i64 0, .int .i64 8, .int .i64 16777216, .int .i64 0, .int .u8 8, .int .u8 0, .bool true, .ptr (some (28, 0)), .ptr (some (32, 0)), .ptr (some (26, 0)), .ptr (some (33, 0)), .bool true, .bool true, .bool true, .bool false, .bool false, .bool true, .bool true, .int .u32 11, .bool true, .int .i64 114, .int .i64 2, .int .u32 240, .int .u32 11, .int .u32 10, .bool false, .int .i64 0, .int .i64 1000, .int .i64 (-1), .int .i64 (-1), .int .i64 (-1), .int .i64 (-1), .int .i64 0, .int .i64 0, .bool true, .int .u32 13, .int .i64 0, .slc none 0 true] 1 false),
  (28, .row [.int .u32 10, .slc (some (82, 0)) 3 false, .int .i64 3, .int .i64 241] 1 false),
  (31, .map [] 0),
  (32, .row [.int .u32 11, .slc (some (129, 5)) 0 false, .map (some 31), .int .i64 0, .int .i64 241, .bool true, .int .u32 11] 1 false),
  (33, .row [.int .i64 114, .int .i64 456, .int .i64 1073741824, .int .u8 0, .int .i64 0, .int .i64 0, .ptr none] 1 false),
  (49, .map [] 0),
  (50, .row [.int .u32 13, .slc (some (151, 3)) 0 false, .map (some 49), .int .i64 0, .int .i64 241, .bool false, .int .u32 0] 1 false),
  (51, .row [.int .i64 114, .int .i64 456, .int .i64 1073741824, .int .u8 0, .int .i64 0, .int .i64 0, .ptr none] 1 false),
  (73, .row [.int .u8 104, .int .u8 101, .int .u8 108, .int .u8 108, .int .u8 111] 1 false),
  (82, .row [.int .u8 121, .int .u8 111, .int .u8 117] 1 false),
  (129, .row [.int .u8 104, .int .u8 101, .int .u8 108, .int .u8 108, .int .u8 111] 1 false),
  (151, .row [.int .u8 121, .int .u8 111, .int .u8 117] 1 false),
  (175, .row [.int .i64 0, .int .u32 2, .int .u16 80, .int .u32 1, .int .u16 1000, .int .u32 13, .int .u32 6, .int .u8 17, .int .u16 60, .int .u16 0, .int .u16 0, .int .i64 (-1), .str [], .int .i64 0, .int .u32 2, .int .u16 80, .int .u32 1, .int .u16 1000, .int .u32 14, .int .u32 12, .int .u8 16, .int .u16 60, .int .u16 0, .int .u16 0, .int .i64 (-1), .str []] 13 false)]
def p22 : Piece := ⟨16, [.ptr (some (1, 0)), .agg [.int .u8 0, .bool false, .int .u16 0, .str []]], 156, m20, .tup [], 176, m22⟩
set_option maxRecDepth 100000 in
theorem ok22 : p22.ok Tryz.prog := Piece.of tok fok mixed quietF p22 (by kernel_rfl)
def p23 : Piece := ⟨16, [.ptr (some (1, 0)), .agg [.int .u8 5, .bool false, .int .u16 9999, .str []]], 176, m22, .tup [], 177, m22⟩
set_option maxRecDepth 100000 in
theorem ok23 : p23.ok Tryz.prog := Piece.of tok fok mixed quietF p23 (by kernel_rfl)
def p24 : Piece := ⟨16, [.ptr (some (1, 0)), .agg [.int .u8 5, .bool true, .int .u16 9999, .str []]], 177, m22, .tup [], 178, m22⟩
set_option maxRecDepth 100000 in
theorem ok24 : p24.ok Tryz.prog := Piece.of tok fok mixed quietF p24 (by kernel_rfl)
def m25 : List (Nat × O) := [(1, .row [.int .u32 5, .int .u32 9, .int .u8 100, .int .u8 50, .int .u8 30, .int .u8 30, .int .i8 2, .bool false, .int .u8 10, .bool false, .ptr (some (6, 0)), .ptr (some (27, 0)), .slc (some (197, 0)) 2 false, .int .i64 0, .str [104, 101, 108, 108, 111], .str [121, 111, 117], .str [121, 111, 117], .str [104, 101, 108, 108, 111], .bool true, .bool true, .int .i64 0, .int .i64 0, .int .u32 12, .int .u32 14, .int .u32 241, .int .u32 241, .bool true, .bool true, .bool true] 1 false),
  (5, .row [.int .i64 0, .int .i64 0, .bool false, .int .i64 0] 1 false),
  (6, .row [.int .u32 1, .int .u16 1000, .int .u32 2, .int .u16 80, .int .u32 5, .int .i64 164, .int .i64 2, .int .i64 241, .int .i64 241, .bool false, .int .i64 10, .int .i64 0, .int .i64 8, .int .i64 16777216, .int .i64 0, .int .u8 8, .int .u8 0, .bool true, .ptr (some (7, 0)), .ptr (some (50, 0)), .ptr (some (5, 0)), .ptr (some (51, 0)), .bool true, .bool true, .bool true, .bool false, .bool false, .bool true, .bool true, .int .u32 13, .bool true, .int .i64 114, .int .i64 2, .int .u32 240, .int .u32 13, .int .u32 6, .bool false, .int .i64 0, .int .i64 1000, .int .i64 (-1), .int .i64 (-1), .int .i64 (-1), .int .i64 (-1), .int .i64 0, .int .i64 0, .bool true, .int .u32 11, .int .i64 0, .slc none 0 true] 1 false),
  (7, .row [.int .u32 6, .slc (some (73, 0)) 5 false, .int .i64 5, .int .i64 241] 1 false),
  (16, .row [.ptr (some (1, 0))] 1 false),
  (26, .row [.int .i64 0, .int .i64 0, .bool false, .int .i64 0] 1 false),
  (27, .row [.int .u32 2, .int .u16 80, .int .u32 1, .int .u16 1000, .int .u32 9, .int .i64 114, .int .i64 2, .int .i64 241, .int .i64 241, .bool false, .int .i64 10, .int .i64 0, .int .i64 8, .int .i64 16777216, .int .i64 0, .int .u8 8, .int .u8 0, .bool true, .ptr (some (28, 0)), .ptr (some (32, 0)), .ptr (some (26, 0)), .ptr (some (33, 0)), .bool true, .bool true, .bool true, .bool false, .bool false, .bool true, .bool true, .int .u32 11, .bool true, .int .i64 114, .int .i64 2, .int .u32 240, .int .u32 11, .int .u32 10, .bool false, .int .i64 0, .int .i64 1000, .int .i64 (-1), .int .i64 (-1), .int .i64 (-1), .int .i64 (-1), .int .i64 0, .int .i64 0, .bool true, .int .u32 13, .int .i64 0, .slc none 0 true] 1 false),
  (28, .row [.int .u32 10, .slc (some (82, 0)) 3 false, .int .i64 3, .int .i64 241] 1 false),
  (31, .map [] 0),
  (32, .row [.int .u32 11, .slc (some (129, 5)) 0 false, .map (some 31), .int .i64 0, .int .i64 241, .bool true, .int .u32 11] 1 false),
  (33, .row [.int .i64 114, .int .i64 456, .int .i64 1073741824, .int .u8 0, .int .i64 0, .int .i64 0, .ptr none] 1 false),
  (49, .map [] 0),
  (50, .row [.int .u32 13, .slc (some (151, 3)) 0 false, .map (some 49), .int .i64 0, .int .i64 241, .bool true, .int .u32 13] 1 false),
  (51, .row [.int .i64 114, .int .i64 456, .int .i64 1073741824, .int .u8 0, .int .i64 0, .int .i64 0, .ptr none] 1 false),
  (73, .row [.int .u8 104, .int .u8 101, .int .u8 108, .int .u8 108, .int .u8 111] 1 false),
  (82, .row [.int .u8 121, .int .u8 111, .int .u8 117] 1 false),
  (129, .row [.int .u8 104, .int .u8 101, .int .u8 108, .int .u8 108, .int .u8 111] 1 false),
  (151, .row [.int .u8 121, .int .u8 111, .int .u8 117] 1 false),
  (197, .row [.int .i64 0, .int .u32 2, .int .u16 80, .int .u32 1, .int .u16 1000, .int .u32 14, .int .u32 12, .int .u8 16, .int .u16 60, .int .u16 0, .int .u16 0, .int .i64 (-1), .str [], .int .i64 1, .int .u32 1, .int .u16 1000, .int .u32 2, .int .u16 80, .int .u32 12, .int .u32 14, .int .u8 16, .int .u16 60, .int .u16 0, .int .u16 0, .int .i64 (-1), .str []] 13 false)]
def p25 : Piece := ⟨16, [.ptr (some (1, 0)), .agg [.int .u8 0, .bool false, .int .u16 0, .str []]], 178, m22, .tup [], 198, m25⟩
set_option maxRecDepth 100000 in
theorem ok25 : p25.ok Tryz.prog := Piece.of tok fok mixed quietF p25 (by kernel_rfl)
def p26 : Piece := ⟨16, [.ptr (some (1, 0)), .agg [.int .u8 5, .bool false, .int .u16 9999, .str []]], 198, m25, .tup [], 199, m25⟩
set_option maxRecDepth 100000 in
theorem ok26 : p26.ok Tryz.prog := Piece.of tok fok mixed quietF p26 (by kernel_rfl)
end Go.Vex.Tcb
