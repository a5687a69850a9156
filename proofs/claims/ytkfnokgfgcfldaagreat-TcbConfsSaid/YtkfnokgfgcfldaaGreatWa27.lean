/-
  The example of layer 27, in pieces: what each call of begun and does makes of the heap (printed by N27p.lean), part 1.
-/
import Derived.Test.YtkfnokgfgcfldaaGreatVexII
import Derived.Test.YtkfnokgfgcfldaaGreatTab27
import Derived.KernelRfl
set_option linter.unusedVariables false
namespace Go.Vex.Tcb
open Go.Proofs

/-- calls that hold no reference: run aside -/
def quietF (f : FuncId) : Bool := memN [20, 32, 33, 44, 45, 54, 84, 102, 104, 105, 123] f

def l0 : List (Nat × O) := []
def m0 : List (Nat × O) := [(1, .row [.int .u32 5, .int .u32 9, .int .u8 100, .int .u8 50, .int .u8 30, .int .u8 30, .int .i8 2, .bool false, .int .u8 10, .bool false, .ptr (some (6, 0)), .ptr none, .slc (some (15, 0)) 1 false, .int .i64 0, .str [], .str [], .str [], .str [], .bool false, .bool false, .int .i64 0, .int .i64 0, .int .u32 0, .int .u32 0, .int .u32 0, .int .u32 241, .bool false, .bool false, .bool true] 1 false),
  (5, .row [.int .i64 0, .int .i64 0, .bool false, .int .i64 0] 1 false),
  (6, .row [.int .u32 1, .int .u16 1000, .int .u32 2, .int .u16 80, .int .u32 5, .int .i64 164, .int .i64 2, .int .i64 241, .int .i64 241, .bool false, .int .i64 10, .int .i64 0, .int .i64 8, .int .i64 16777216, .int .i64 0, .int .u8 2, .int .u8 0, .bool false, .ptr (some (7, 0)), .ptr none, .ptr (some (5, 0)), .ptr (some (8, 0)), .bool false, .bool false, .bool false, .bool false, .bool false, .bool false, .bool false, .int .u32 0, .bool false, .int .i64 164, .int .i64 0, .int .u32 0, .int .u32 0, .int .u32 0, .bool false, .int .i64 0, .int .i64 1000, .int .i64 (-1), .int .i64 (-1), .int .i64 (-1), .int .i64 (-1), .int .i64 0, .int .i64 0, .bool false, .int .u32 0, .int .i64 0, .slc none 0 true] 1 false),
  (7, .row [.int .u32 6, .slc none 0 true, .int .i64 0, .int .i64 241] 1 false),
  (8, .row [.int .i64 164, .int .i64 656, .int .i64 1073741824, .int .u8 0, .int .i64 0, .int .i64 0, .ptr none] 1 false),
  (15, .row [.int .i64 1, .int .u32 1, .int .u16 1000, .int .u32 2, .int .u16 80, .int .u32 5, .int .u32 0, .int .u8 2, .int .u16 241, .int .u16 0, .int .u16 164, .int .i64 2, .str []] 13 false)]
def p0 : Piece := ⟨13, [.agg [.int .u32 5, .int .u32 9, .int .u8 100, .int .u8 50, .int .u8 30, .int .u8 30, .int .i8 2, .bool false, .int .u8 10, .bool false]], 0, l0, .ptr (some (1, 0)), 16, m0⟩
set_option maxRecDepth 100000 in
theorem ok0 : p0.ok Tryz.prog := Piece.of tok fok mixed quietF p0 (by kernel_rfl)
def l1 : List (Nat × O) := [(1, .row [.int .u32 5, .int .u32 9, .int .u8 100, .int .u8 50, .int .u8 30, .int .u8 30, .int .i8 2, .bool false, .int .u8 10, .bool false, .ptr (some (6, 0)), .ptr none, .slc (some (15, 0)) 1 false, .int .i64 0, .str [], .str [], .str [], .str [], .bool false, .bool false, .int .i64 0, .int .i64 0, .int .u32 0, .int .u32 0, .int .u32 0, .int .u32 241, .bool false, .bool false, .bool true] 1 false),
  (5, .row [.int .i64 0, .int .i64 0, .bool false, .int .i64 0] 1 false),
  (6, .row [.int .u32 1, .int .u16 1000, .int .u32 2, .int .u16 80, .int .u32 5, .int .i64 164, .int .i64 2, .int .i64 241, .int .i64 241, .bool false, .int .i64 10, .int .i64 0, .int .i64 8, .int .i64 16777216, .int .i64 0, .int .u8 2, .int .u8 0, .bool false, .ptr (some (7, 0)), .ptr none, .ptr (some (5, 0)), .ptr (some (8, 0)), .bool false, .bool false, .bool false, .bool false, .bool false, .bool false, .bool false, .int .u32 0, .bool false, .int .i64 164, .int .i64 0, .int .u32 0, .int .u32 0, .int .u32 0, .bool false, .int .i64 0, .int .i64 1000, .int .i64 (-1), .int .i64 (-1), .int .i64 (-1), .int .i64 (-1), .int .i64 0, .int .i64 0, .bool false, .int .u32 0, .int .i64 0, .slc none 0 true] 1 false),
  (7, .row [.int .u32 6, .slc none 0 true, .int .i64 0, .int .i64 241] 1 false),
  (8, .row [.int .i64 164, .int .i64 656, .int .i64 1073741824, .int .u8 0, .int .i64 0, .int .i64 0, .ptr none] 1 false),
  (15, .row [.int .i64 1, .int .u32 1, .int .u16 1000, .int .u32 2, .int .u16 80, .int .u32 5, .int .u32 0, .int .u8 2, .int .u16 241, .int .u16 0, .int .u16 164, .int .i64 2, .str []] 13 false),
  (16, .row [.ptr (some (1, 0))] 1 false)]
def p1 : Piece := ⟨16, [.ptr (some (1, 0)), .agg [.int .u8 5, .bool false, .int .u16 9999, .str []]], 17, l1, .tup [], 18, l1⟩
set_option maxRecDepth 100000 in
theorem ok1 : p1.ok Tryz.prog := Piece.of tok fok mixed quietF p1 (by kernel_rfl)
def p2 : Piece := ⟨16, [.ptr (some (1, 0)), .agg [.int .u8 5, .bool true, .int .u16 9999, .str []]], 18, l1, .tup [], 19, l1⟩
set_option maxRecDepth 100000 in
theorem ok2 : p2.ok Tryz.prog := Piece.of tok fok mixed quietF p2 (by kernel_rfl)
def m3 : List (Nat × O) := [(1, .row [.int .u32 5, .int .u32 9, .int .u8 100, .int .u8 50, .int .u8 30, .int .u8 30, .int .i8 2, .bool false, .int .u8 10, .bool false, .ptr (some (6, 0)), .ptr (some (27, 0)), .slc (some (40, 0)) 1 false, .int .i64 0, .str [], .str [], .str [], .str [], .bool false, .bool false, .int .i64 0, .int .i64 0, .int .u32 6, .int .u32 0, .int .u32 241, .int .u32 241, .bool true, .bool false, .bool true] 1 false),
  (5, .row [.int .i64 0, .int .i64 0, .bool false, .int .i64 0] 1 false),
  (6, .row [.int .u32 1, .int .u16 1000, .int .u32 2, .int .u16 80, .int .u32 5, .int .i64 164, .int .i64 2, .int .i64 241, .int .i64 241, .bool false, .int .i64 10, .int .i64 0, .int .i64 8, .int .i64 16777216, .int .i64 0, .int .u8 2, .int .u8 0, .bool false, .ptr (some (7, 0)), .ptr none, .ptr (some (5, 0)), .ptr (some (8, 0)), .bool false, .bool false, .bool false, .bool false, .bool false, .bool false, .bool false, .int .u32 0, .bool false, .int .i64 164, .int .i64 0, .int .u32 0, .int .u32 0, .int .u32 0, .bool false, .int .i64 0, .int .i64 1000, .int .i64 (-1), .int .i64 (-1), .int .i64 (-1), .int .i64 (-1), .int .i64 0, .int .i64 0, .bool false, .int .u32 0, .int .i64 0, .slc none 0 true] 1 false),
  (7, .row [.int .u32 6, .slc none 0 true, .int .i64 0, .int .i64 241] 1 false),
  (8, .row [.int .i64 164, .int .i64 656, .int .i64 1073741824, .int .u8 0, .int .i64 0, .int .i64 0, .ptr none] 1 false),
  (16, .row [.ptr (some (1, 0))] 1 false),
  (26, .row [.int .i64 0, .int .i64 0, .bool false, .int .i64 0] 1 false),
  (27, .row [.int .u32 2, .int .u16 80, .int .u32 1, .int .u16 1000, .int .u32 9, .int .i64 114, .int .i64 2, .int .i64 241, .int .i64 241, .bool false, .int .i64 10, .int .i64 0, .int .i64 8, .int .i64 16777216, .int .i64 0, .int .u8 3, .int .u8 0, .bool false, .ptr (some (28, 0)), .ptr (some (32, 0)), .ptr (some (26, 0)), .ptr (some (33, 0)), .bool false, .bool false, .bool false, .bool false, .bool false, .bool false, .bool false, .int .u32 0, .bool true, .int .i64 114, .int .i64 2, .int .u32 241, .int .u32 5, .int .u32 0, .bool false, .int .i64 0, .int .i64 1000, .int .i64 (-1), .int .i64 (-1), .int .i64 (-1), .int .i64 (-1), .int .i64 0, .int .i64 0, .bool false, .int .u32 0, .int .i64 0, .slc none 0 true] 1 false),
  (28, .row [.int .u32 10, .slc none 0 true, .int .i64 0, .int .i64 241] 1 false),
  (31, .map [] 0),
  (32, .row [.int .u32 6, .slc none 0 true, .map (some 31), .int .i64 0, .int .i64 241, .bool false, .int .u32 0] 1 false),
  (33, .row [.int .i64 114, .int .i64 456, .int .i64 1073741824, .int .u8 0, .int .i64 0, .int .i64 0, .ptr none] 1 false),
  (40, .row [.int .i64 0, .int .u32 2, .int .u16 80, .int .u32 1, .int .u16 1000, .int .u32 9, .int .u32 6, .int .u8 18, .int .u16 241, .int .u16 0, .int .u16 114, .int .i64 2, .str []] 13 false)]
def p3 : Piece := ⟨16, [.ptr (some (1, 0)), .agg [.int .u8 0, .bool false, .int .u16 0, .str []]], 19, l1, .tup [], 41, m3⟩
set_option maxRecDepth 100000 in
theorem ok3 : p3.ok Tryz.prog := Piece.of tok fok mixed quietF p3 (by kernel_rfl)
def p4 : Piece := ⟨16, [.ptr (some (1, 0)), .agg [.int .u8 5, .bool false, .int .u16 9999, .str []]], 41, m3, .tup [], 42, m3⟩
set_option maxRecDepth 100000 in
theorem ok4 : p4.ok Tryz.prog := Piece.of tok fok mixed quietF p4 (by kernel_rfl)
def p5 : Piece := ⟨16, [.ptr (some (1, 0)), .agg [.int .u8 5, .bool true, .int .u16 9999, .str []]], 42, m3, .tup [], 43, m3⟩
set_option maxRecDepth 100000 in
theorem ok5 : p5.ok Tryz.prog := Piece.of tok fok mixed quietF p5 (by kernel_rfl)
def m6 : List (Nat × O) := [(1, .row [.int .u32 5, .int .u32 9, .int .u8 100, .int .u8 50, .int .u8 30, .int .u8 30, .int .i8 2, .bool false, .int .u8 10, .bool false, .ptr (some (6, 0)), .ptr (some (27, 0)), .slc (some (58, 0)) 1 false, .int .i64 0, .str [], .str [], .str [], .str [], .bool false, .bool false, .int .i64 0, .int .i64 0, .int .u32 6, .int .u32 10, .int .u32 241, .int .u32 241, .bool true, .bool true, .bool true] 1 false),
  (5, .row [.int .i64 0, .int .i64 0, .bool false, .int .i64 0] 1 false),
  (6, .row [.int .u32 1, .int .u16 1000, .int .u32 2, .int .u16 80, .int .u32 5, .int .i64 164, .int .i64 2, .int .i64 241, .int .i64 241, .bool false, .int .i64 10, .int .i64 0, .int .i64 8, .int .i64 16777216, .int .i64 0, .int .u8 4, .int .u8 0, .bool true, .ptr (some (7, 0)), .ptr (some (50, 0)), .ptr (some (5, 0)), .ptr (some (51, 0)), .bool true, .bool false, .bool false, .bool false, .bool false, .bool false, .bool false, .int .u32 0, .bool true, .int .i64 114, .int .i64 2, .int .u32 241, .int .u32 9, .int .u32 6, .bool false, .int .i64 0, .int .i64 (-1), .int .i64 (-1), .int .i64 (-1), .int .i64 (-1), .int .i64 (-1), .int .i64 0, .int .i64 0, .bool false, .int .u32 0, .int .i64 0, .slc none 0 true] 1 false),
  (7, .row [.int .u32 6, .slc none 0 true, .int .i64 0, .int .i64 241] 1 false),
  (16, .row [.ptr (some (1, 0))] 1 false),
  (26, .row [.int .i64 0, .int .i64 0, .bool false, .int .i64 0] 1 false),
  (27, .row [.int .u32 2, .int .u16 80, .int .u32 1, .int .u16 1000, .int .u32 9, .int .i64 114, .int .i64 2, .int .i64 241, .int .i64 241, .bool false, .int .i64 10, .int .i64 0, .int .i64 8, .int .i64 16777216, .int .i64 0, .int .u8 3, .int .u8 0, .bool false, .ptr (some (28, 0)), .ptr (some (32, 0)), .ptr (some (26, 0)), .ptr (some (33, 0)), .bool false, .bool false, .bool false, .bool false, .bool false, .bool false, .bool false, .int .u32 0, .bool true, .int .i64 114, .int .i64 2, .int .u32 241, .int .u32 5, .int .u32 0, .bool false, .int .i64 0, .int .i64 1000, .int .i64 (-1), .int .i64 (-1), .int .i64 (-1), .int .i64 (-1), .int .i64 0, .int .i64 0, .bool false, .int .u32 0, .int .i64 0, .slc none 0 true] 1 false),
  (28, .row [.int .u32 10, .slc none 0 true, .int .i64 0, .int .i64 241] 1 false),
  (31, .map [] 0),
  (32, .row [.int .u32 6, .slc none 0 true, .map (some 31), .int .i64 0, .int .i64 241, .bool false, .int .u32 0] 1 false),
  (33, .row [.int .i64 114, .int .i64 456, .int .i64 1073741824, .int .u8 0, .int .i64 0, .int .i64 0, .ptr none] 1 false),
  (49, .map [] 0),
  (50, .row [.int .u32 10, .slc none 0 true, .map (some 49), .int .i64 0, .int .i64 241, .bool false, .int .u32 0] 1 false),
  (51, .row [.int .i64 114, .int .i64 456, .int .i64 1073741824, .int .u8 0, .int .i64 0, .int .i64 0, .ptr none] 1 false),
  (58, .row [.int .i64 1, .int .u32 1, .int .u16 1000, .int .u32 2, .int .u16 80, .int .u32 6, .int .u32 10, .int .u8 16, .int .u16 60, .int .u16 0, .int .u16 0, .int .i64 (-1), .str []] 13 false)]
def p6 : Piece := ⟨16, [.ptr (some (1, 0)), .agg [.int .u8 0, .bool false, .int .u16 0, .str []]], 43, m3, .tup [], 59, m6⟩
set_option maxRecDepth 100000 in
theorem ok6 : p6.ok Tryz.prog := Piece.of tok fok mixed quietF p6 (by kernel_rfl)
def p7 : Piece := ⟨16, [.ptr (some (1, 0)), .agg [.int .u8 5, .bool false, .int .u16 9999, .str []]], 59, m6, .tup [], 60, m6⟩
set_option maxRecDepth 100000 in
theorem ok7 : p7.ok Tryz.prog := Piece.of tok fok mixed quietF p7 (by kernel_rfl)
def p8 : Piece := ⟨16, [.ptr (some (1, 0)), .agg [.int .u8 5, .bool true, .int .u16 9999, .str []]], 60, m6, .tup [], 61, m6⟩
set_option maxRecDepth 100000 in
theorem ok8 : p8.ok Tryz.prog := Piece.of tok fok mixed quietF p8 (by kernel_rfl)
end Go.Vex.Tcb
