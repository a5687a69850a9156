/-
  The example of layer 27, in pieces: what each call of begun and does makes of the heap (printed by N27p.lean), part 4.
-/
import Derived.Test.YtkfnokgfgcfldaaGreatWc27
set_option linter.unusedVariables false
namespace Go.Vex.Tcb
open Go.Proofs
def p27 : Piece := ⟨16, [.ptr (some (1, 0)), .agg [.int .u8 5, .bool true, .int .u16 9999, .str []]], 199, m25, .tup [], 200, m25⟩
set_option maxRecDepth 100000 in
theorem ok27 : p27.ok Tryz.prog := Piece.of tok fok mixed quietF p27 (by kernel_rfl)
def m28 : List (Nat × O) := [(1, .row [.int .u32 5, .int .u32 9, .int .u8 100, .int .u8 50, .int .u8 30, .int .u8 30, .int .i8 2, .bool false, .int .u8 10, .bool false, .ptr (some (6, 0)), .ptr (some (27, 0)), .slc (some (202, 0)) 1 false, .int .i64 0, .str [104, 101, 108, 108, 111], .str [121, 111, 117], .str [121, 111, 117], .str [104, 101, 108, 108, 111], .bool true, .bool true, .int .i64 0, .int .i64 0, .int .u32 12, .int .u32 14, .int .u32 241, .int .u32 241, .bool true, .bool true, .bool true] 1 false),
  (5, .row [.int .i64 0, .int .i64 0, .bool true, .int .i64 0] 1 false),
  (6, .row [.int .u32 1, .int .u16 1000, .int .u32 2, .int .u16 80, .int .u32 5, .int .i64 164, .int .i64 2, .int .i64 241, .int .i64 241, .bool false, .int .i64 10, .int .i64 0, .int .i64 8, .int .i64 16777216, .int .i64 0, .int .u8 10, .int .u8 0, .bool true, .ptr (some (7, 0)), .ptr (some (50, 0)), .ptr (some (5, 0)), .ptr (some (51, 0)), .bool true, .bool true, .bool true, .bool true, .bool false, .bool true, .bool true, .int .u32 13, .bool true, .int .i64 114, .int .i64 2, .int .u32 240, .int .u32 14, .int .u32 12, .bool false, .int .i64 0, .int .i64 (-1), .int .i64 (-1), .int .i64 (-1), .int .i64 (-1), .int .i64 16777216, .int .i64 0, .int .i64 0, .bool false, .int .u32 11, .int .i64 0, .slc none 0 true] 1 false),
  (7, .row [.int .u32 11, .slc (some (210, 0)) 0 true, .int .i64 0, .int .i64 241] 1 false),
  (16, .row [.ptr (some (1, 0))] 1 false),
  (26, .row [.int .i64 0, .int .i64 0, .bool false, .int .i64 0] 1 false),
  (27, .row [.int .u32 2, .int .u16 80, .int .u32 1, .int .u16 1000, .int .u32 9, .int .i64 114, .int .i64 2, .int .i64 241, .int .i64 241, .bool false, .int .i64 10, .int .i64 0, .int .i64 8, .int .i64 16777216, .int .i64 0, .int .u8 8, .int .u8 0, .bool true, .ptr (some (28, 0)), .ptr (some (32, 0)), .ptr (some (26, 0)), .ptr (some (33, 0)), .bool true, .bool true, .bool true, .bool false, .bool false, .bool true, .bool true, .int .u32 11, .bool true, .int .i64 114, .int .i64 2, .int .u32 240, .int .u32 11, .int .u32 10, .bool false, .int .i64 0, .int .i64 1000, .int .i64 (-1), .int .i64 (-1), .int .i64 (-1), .int .i64 (-1), .int .i64 0, .int .i64 0, .bool true, .int .u32 13, .int .i64 0, .slc none 0 true] 1 false),
  (28, .row [.int .u32 10, .slc (some (82, 0)) 3 false, .int .i64 3, .int .i64 241] 1 false),
  (31, .map [] 0),
  (32, .row [.int .u32 11, .slc (some (129, 5)) 0 false, .map (some 31), .int .i64 0, .int .i64 241, .bool true, .int .u32 11] 1 false),
  (33, .row [.int .i64 114, .int .i64 456, .int .i64 1073741824, .int .u8 0, .int .i64 0, .int .i64 0, .ptr none] 1 false),
  (49, .map [] 0),
  (50, .row [.int .u32 13, .slc (some (151, 3)) 0 false, .map (some 49), .int .i64 0, .int .i64 241, .bool true, .int .u32 13] 1 false),
  (51, .row [.int .i64 114, .int .i64 462, .int .i64 1073741824, .int .u8 0, .int .i64 0, .int .i64 0, .ptr none] 1 false),
  (82, .row [.int .u8 121, .int .u8 111, .int .u8 117] 1 false),
  (129, .row [.int .u8 104, .int .u8 101, .int .u8 108, .int .u8 108, .int .u8 111] 1 false),
  (151, .row [.int .u8 121, .int .u8 111, .int .u8 117] 1 false),
  (202, .row [.int .i64 1, .int .u32 1, .int .u16 1000, .int .u32 2, .int .u16 80, .int .u32 12, .int .u32 14, .int .u8 16, .int .u16 60, .int .u16 0, .int .u16 0, .int .i64 (-1), .str []] 13 false),
  (210, .row [] 1 false)]
def p28 : Piece := ⟨16, [.ptr (some (1, 0)), .agg [.int .u8 0, .bool false, .int .u16 0, .str []]], 200, m25, .tup [], 214, m28⟩
set_option maxRecDepth 100000 in
theorem ok28 : p28.ok Tryz.prog := Piece.of tok fok mixed quietF p28 (by kernel_rfl)
def p29 : Piece := ⟨16, [.ptr (some (1, 0)), .agg [.int .u8 5, .bool false, .int .u16 9999, .str []]], 214, m28, .tup [], 215, m28⟩
set_option maxRecDepth 100000 in
theorem ok29 : p29.ok Tryz.prog := Piece.of tok fok mixed quietF p29 (by kernel_rfl)
def p30 : Piece := ⟨16, [.ptr (some (1, 0)), .agg [.int .u8 5, .bool true, .int .u16 9999, .str []]], 215, m28, .tup [], 216, m28⟩
set_option maxRecDepth 100000 in
theorem ok30 : p30.ok Tryz.prog := Piece.of tok fok mixed quietF p30 (by kernel_rfl)
def m31 : List (Nat × O) := [(1, .row [.int .u32 5, .int .u32 9, .int .u8 100, .int .u8 50, .int .u8 30, .int .u8 30, .int .i8 2, .bool false, .int .u8 10, .bool false, .ptr (some (6, 0)), .ptr (some (27, 0)), .slc none 0 true, .int .i64 0, .str [104, 101, 108, 108, 111], .str [121, 111, 117], .str [121, 111, 117], .str [104, 101, 108, 108, 111], .bool true, .bool true, .int .i64 0, .int .i64 0, .int .u32 12, .int .u32 14, .int .u32 241, .int .u32 241, .bool true, .bool true, .bool true] 1 false),
  (5, .row [.int .i64 0, .int .i64 0, .bool true, .int .i64 0] 1 false),
  (6, .row [.int .u32 1, .int .u16 1000, .int .u32 2, .int .u16 80, .int .u32 5, .int .i64 164, .int .i64 2, .int .i64 241, .int .i64 241, .bool false, .int .i64 10, .int .i64 0, .int .i64 8, .int .i64 16777216, .int .i64 0, .int .u8 10, .int .u8 0, .bool true, .ptr (some (7, 0)), .ptr (some (50, 0)), .ptr (some (5, 0)), .ptr (some (51, 0)), .bool true, .bool true, .bool true, .bool true, .bool false, .bool true, .bool true, .int .u32 13, .bool true, .int .i64 114, .int .i64 2, .int .u32 240, .int .u32 14, .int .u32 12, .bool false, .int .i64 0, .int .i64 (-1), .int .i64 (-1), .int .i64 (-1), .int .i64 (-1), .int .i64 16777216, .int .i64 0, .int .i64 0, .bool false, .int .u32 11, .int .i64 0, .slc none 0 true] 1 false),
  (7, .row [.int .u32 11, .slc (some (210, 0)) 0 true, .int .i64 0, .int .i64 241] 1 false),
  (16, .row [.ptr (some (1, 0))] 1 false),
  (26, .row [.int .i64 0, .int .i64 0, .bool true, .int .i64 0] 1 false),
  (27, .row [.int .u32 2, .int .u16 80, .int .u32 1, .int .u16 1000, .int .u32 9, .int .i64 114, .int .i64 2, .int .i64 241, .int .i64 241, .bool false, .int .i64 10, .int .i64 0, .int .i64 8, .int .i64 16777216, .int .i64 0, .int .u8 10, .int .u8 0, .bool true, .ptr (some (28, 0)), .ptr (some (32, 0)), .ptr (some (26, 0)), .ptr (some (33, 0)), .bool true, .bool true, .bool true, .bool true, .bool false, .bool true, .bool true, .int .u32 11, .bool true, .int .i64 114, .int .i64 2, .int .u32 240, .int .u32 12, .int .u32 14, .bool false, .int .i64 0, .int .i64 (-1), .int .i64 (-1), .int .i64 (-1), .int .i64 (-1), .int .i64 16777216, .int .i64 0, .int .i64 0, .bool false, .int .u32 13, .int .i64 0, .slc none 0 true] 1 false),
  (28, .row [.int .u32 13, .slc (some (225, 0)) 0 true, .int .i64 0, .int .i64 241] 1 false),
  (31, .map [] 0),
  (32, .row [.int .u32 11, .slc (some (129, 5)) 0 false, .map (some 31), .int .i64 0, .int .i64 241, .bool true, .int .u32 11] 1 false),
  (33, .row [.int .i64 114, .int .i64 460, .int .i64 1073741824, .int .u8 0, .int .i64 0, .int .i64 0, .ptr none] 1 false),
  (49, .map [] 0),
  (50, .row [.int .u32 13, .slc (some (151, 3)) 0 false, .map (some 49), .int .i64 0, .int .i64 241, .bool true, .int .u32 13] 1 false),
  (51, .row [.int .i64 114, .int .i64 462, .int .i64 1073741824, .int .u8 0, .int .i64 0, .int .i64 0, .ptr none] 1 false),
  (129, .row [.int .u8 104, .int .u8 101, .int .u8 108, .int .u8 108, .int .u8 111] 1 false),
  (151, .row [.int .u8 121, .int .u8 111, .int .u8 117] 1 false),
  (210, .row [] 1 false),
  (225, .row [] 1 false)]
def p31 : Piece := ⟨16, [.ptr (some (1, 0)), .agg [.int .u8 0, .bool false, .int .u16 0, .str []]], 216, m28, .tup [], 229, m31⟩
set_option maxRecDepth 100000 in
theorem ok31 : p31.ok Tryz.prog := Piece.of tok fok mixed quietF p31 (by kernel_rfl)
def p32 : Piece := ⟨16, [.ptr (some (1, 0)), .agg [.int .u8 5, .bool false, .int .u16 9999, .str []]], 229, m31, .tup [], 230, m31⟩
set_option maxRecDepth 100000 in
theorem ok32 : p32.ok Tryz.prog := Piece.of tok fok mixed quietF p32 (by kernel_rfl)
def p33 : Piece := ⟨16, [.ptr (some (1, 0)), .agg [.int .u8 5, .bool true, .int .u16 9999, .str []]], 230, m31, .tup [], 231, m31⟩
set_option maxRecDepth 100000 in
theorem ok33 : p33.ok Tryz.prog := Piece.of tok fok mixed quietF p33 (by kernel_rfl)
def l34 : List (Nat × O) := [(1, .row [.int .u32 5, .int .u32 9, .int .u8 100, .int .u8 50, .int .u8 30, .int .u8 30, .int .i8 2, .bool false, .int .u8 10, .bool false, .ptr (some (6, 0)), .ptr (some (27, 0)), .slc none 0 true, .int .i64 16777216, .str [104, 101, 108, 108, 111], .str [121, 111, 117], .str [121, 111, 117], .str [104, 101, 108, 108, 111], .bool true, .bool true, .int .i64 0, .int .i64 0, .int .u32 12, .int .u32 14, .int .u32 241, .int .u32 241, .bool true, .bool true, .bool true] 1 false),
  (5, .row [.int .i64 0, .int .i64 0, .bool true, .int .i64 0] 1 false),
  (6, .row [.int .u32 1, .int .u16 1000, .int .u32 2, .int .u16 80, .int .u32 5, .int .i64 164, .int .i64 2, .int .i64 241, .int .i64 241, .bool false, .int .i64 10, .int .i64 0, .int .i64 8, .int .i64 16777216, .int .i64 0, .int .u8 10, .int .u8 0, .bool true, .ptr (some (7, 0)), .ptr (some (50, 0)), .ptr (some (5, 0)), .ptr (some (51, 0)), .bool true, .bool true, .bool true, .bool true, .bool false, .bool true, .bool true, .int .u32 13, .bool true, .int .i64 114, .int .i64 2, .int .u32 240, .int .u32 14, .int .u32 12, .bool false, .int .i64 0, .int .i64 (-1), .int .i64 (-1), .int .i64 (-1), .int .i64 (-1), .int .i64 16777216, .int .i64 0, .int .i64 0, .bool false, .int .u32 11, .int .i64 0, .slc none 0 true] 1 false),
  (7, .row [.int .u32 11, .slc (some (210, 0)) 0 true, .int .i64 0, .int .i64 241] 1 false),
  (16, .row [.ptr (some (1, 0))] 1 false),
  (26, .row [.int .i64 0, .int .i64 0, .bool true, .int .i64 0] 1 false),
  (27, .row [.int .u32 2, .int .u16 80, .int .u32 1, .int .u16 1000, .int .u32 9, .int .i64 114, .int .i64 2, .int .i64 241, .int .i64 241, .bool false, .int .i64 10, .int .i64 0, .int .i64 8, .int .i64 16777216, .int .i64 0, .int .u8 10, .int .u8 0, .bool true, .ptr (some (28, 0)), .ptr (some (32, 0)), .ptr (some (26, 0)), .ptr (some (33, 0)), .bool true, .bool true, .bool true, .bool true, .bool false, .bool true, .bool true, .int .u32 11, .bool true, .int .i64 114, .int .i64 2, .int .u32 240, .int .u32 12, .int .u32 14, .bool false, .int .i64 0, .int .i64 (-1), .int .i64 (-1), .int .i64 (-1), .int .i64 (-1), .int .i64 16777216, .int .i64 0, .int .i64 0, .bool false, .int .u32 13, .int .i64 0, .slc none 0 true] 1 false),
  (28, .row [.int .u32 13, .slc (some (225, 0)) 0 true, .int .i64 0, .int .i64 241] 1 false),
  (31, .map [] 0),
  (32, .row [.int .u32 11, .slc (some (129, 5)) 0 false, .map (some 31), .int .i64 0, .int .i64 241, .bool true, .int .u32 11] 1 false),
  (33, .row [.int .i64 114, .int .i64 460, .int .i64 1073741824, .int .u8 0, .int .i64 0, .int .i64 0, .ptr none] 1 false),
  (49, .map [] 0),
  (50, .row [.int .u32 13, .slc (some (151, 3)) 0 false, .map (some 49), .int .i64 0, .int .i64 241, .bool true, .int .u32 13] 1 false),
  (51, .row [.int .i64 114, .int .i64 462, .int .i64 1073741824, .int .u8 0, .int .i64 0, .int .i64 0, .ptr none] 1 false),
  (129, .row [.int .u8 104, .int .u8 101, .int .u8 108, .int .u8 108, .int .u8 111] 1 false),
  (151, .row [.int .u8 121, .int .u8 111, .int .u8 117] 1 false),
  (210, .row [] 1 false),
  (225, .row [] 1 false)]
def m34 : List (Nat × O) := [(1, .row [.int .u32 5, .int .u32 9, .int .u8 100, .int .u8 50, .int .u8 30, .int .u8 30, .int .i8 2, .bool false, .int .u8 10, .bool false, .ptr (some (6, 0)), .ptr (some (27, 0)), .slc none 0 true, .int .i64 16777216, .str [104, 101, 108, 108, 111], .str [121, 111, 117], .str [121, 111, 117], .str [104, 101, 108, 108, 111], .bool true, .bool true, .int .i64 0, .int .i64 0, .int .u32 12, .int .u32 14, .int .u32 241, .int .u32 241, .bool true, .bool true, .bool true] 1 false),
  (5, .row [.int .i64 0, .int .i64 0, .bool true, .int .i64 0] 1 false),
  (6, .row [.int .u32 1, .int .u16 1000, .int .u32 2, .int .u16 80, .int .u32 5, .int .i64 164, .int .i64 2, .int .i64 241, .int .i64 241, .bool false, .int .i64 10, .int .i64 0, .int .i64 8, .int .i64 16777216, .int .i64 16777216, .int .u8 0, .int .u8 1, .bool true, .ptr (some (7, 0)), .ptr (some (50, 0)), .ptr (some (5, 0)), .ptr (some (51, 0)), .bool true, .bool true, .bool true, .bool true, .bool false, .bool true, .bool true, .int .u32 13, .bool true, .int .i64 114, .int .i64 2, .int .u32 240, .int .u32 14, .int .u32 12, .bool false, .int .i64 0, .int .i64 (-1), .int .i64 (-1), .int .i64 (-1), .int .i64 (-1), .int .i64 (-1), .int .i64 0, .int .i64 0, .bool false, .int .u32 11, .int .i64 0, .slc none 0 true] 1 false),
  (7, .row [.int .u32 11, .slc (some (210, 0)) 0 true, .int .i64 0, .int .i64 241] 1 false),
  (16, .row [.ptr (some (1, 0))] 1 false),
  (26, .row [.int .i64 0, .int .i64 0, .bool true, .int .i64 0] 1 false),
  (27, .row [.int .u32 2, .int .u16 80, .int .u32 1, .int .u16 1000, .int .u32 9, .int .i64 114, .int .i64 2, .int .i64 241, .int .i64 241, .bool false, .int .i64 10, .int .i64 0, .int .i64 8, .int .i64 16777216, .int .i64 16777216, .int .u8 0, .int .u8 1, .bool true, .ptr (some (28, 0)), .ptr (some (32, 0)), .ptr (some (26, 0)), .ptr (some (33, 0)), .bool true, .bool true, .bool true, .bool true, .bool false, .bool true, .bool true, .int .u32 11, .bool true, .int .i64 114, .int .i64 2, .int .u32 240, .int .u32 12, .int .u32 14, .bool false, .int .i64 0, .int .i64 (-1), .int .i64 (-1), .int .i64 (-1), .int .i64 (-1), .int .i64 (-1), .int .i64 0, .int .i64 0, .bool false, .int .u32 13, .int .i64 0, .slc none 0 true] 1 false),
  (28, .row [.int .u32 13, .slc (some (225, 0)) 0 true, .int .i64 0, .int .i64 241] 1 false),
  (31, .map [] 0),
  (32, .row [.int .u32 11, .slc (some (129, 5)) 0 false, .map (some 31), .int .i64 0, .int .i64 241, .bool true, .int .u32 11] 1 false),
  (33, .row [.int .i64 114, .int .i64 460, .int .i64 1073741824, .int .u8 0, .int .i64 0, .int .i64 0, .ptr none] 1 false),
  (49, .map [] 0),
  (50, .row [.int .u32 13, .slc (some (151, 3)) 0 false, .map (some 49), .int .i64 0, .int .i64 241, .bool true, .int .u32 13] 1 false),
  (51, .row [.int .i64 114, .int .i64 462, .int .i64 1073741824, .int .u8 0, .int .i64 0, .int .i64 0, .ptr none] 1 false),
  (129, .row [.int .u8 104, .int .u8 101, .int .u8 108, .int .u8 108, .int .u8 111] 1 false),
  (151, .row [.int .u8 121, .int .u8 111, .int .u8 117] 1 false),
  (210, .row [] 1 false),
  (225, .row [] 1 false)]
def p34 : Piece := ⟨16, [.ptr (some (1, 0)), .agg [.int .u8 3, .bool false, .int .u16 0, .str []]], 231, l34, .tup [], 244, m34⟩
set_option maxRecDepth 100000 in
theorem ok34 : p34.ok Tryz.prog := Piece.of tok fok mixed quietF p34 (by kernel_rfl)
end Go.Vex.Tcb
