/-
  TcbConfs of layer 27: whatever the conf, the time and the first segment, the law returns true and leaves the input as it was. No condition.
-/
import Derived.Test.YtkfnokgfgcfldaaGreatVexJJ
import Derived.Test.YtkfnokgfgcfldaaGreatTab27
import Derived.Test.YtkfnokgfgcfldaaGreatXa27
import Derived.Test.YtkfnokgfgcfldaaGreatCa27
import Derived.Test.YtkfnokgfgcfldaaGreatCb27
import Derived.Test.YtkfnokgfgcfldaaGreatCc27
import Derived.Test.YtkfnokgfgcfldaaGreatCd27
import Derived.Test.YtkfnokgfgcfldaaGreatCe27
import Derived.Test.YtkfnokgfgcfldaaGreatCf27
import Derived.Test.YtkfnokgfgcfldaaGreatXl27
import Derived.Test.YtkfnokgfgcfldaaGreatXn27
import Derived.Test.YtkfnokgfgcfldaaGreatWz27
import Derived.Test.YtkfnokgfgcfldaaGreatRows
set_option linter.unusedVariables false
set_option linter.unusedSimpArgs false
namespace Go.Vex.TcbConfs
open Go.Proofs Go.Vex.Tcb

section
variable {h : Hp}
theorem n42 (s : List UInt8) (now : Int) : XCalls Tryz.prog 42 [.ptr none, .str s, .int .i64 now] h fun v h' => v = .tup [.int .i64 0, .int .i64 1] ∧ h' = h := by
  apply x42n; exact ⟨fun _ _ => False, ⟨rfl, rfl⟩, fun _ _ hf => hf.elim⟩
theorem n43 (now : Int) : XCalls Tryz.prog 43 [.ptr none, .int .i64 now] h fun v h' => v = .int .i64 1 ∧ h' = h := by
  apply x43n; exact ⟨fun _ _ => False, ⟨rfl, rfl⟩, fun _ _ hf => hf.elim⟩
theorem n48 (now : Int) : XCalls Tryz.prog 48 [.ptr none, .int .i64 now] h fun v h' => v = .int .i64 1 ∧ h' = h := by
  apply x48n; exact ⟨fun _ _ => False, ⟨rfl, rfl⟩, fun _ _ hf => hf.elim⟩
theorem n17 : XCalls Tryz.prog 17 [.ptr none] h fun v h' => v = .tup [.int .i64 0, .bool false] ∧ h' = h := by
  apply x17n; exact ⟨rfl, rfl⟩
theorem n18 : XCalls Tryz.prog 18 [.ptr none] h fun v h' => v = .int .u8 0 ∧ h' = h := by
  apply x18n; exact ⟨rfl, rfl⟩
theorem n24 (now : Int) : XCalls Tryz.prog 24 [.ptr none, .int .i64 now] h fun v h' => v = .int .i64 1 ∧ h' = h := by
  apply x24n; exact ⟨rfl, rfl⟩
theorem n25 : XCalls Tryz.prog 25 [.ptr none] h fun v h' => v = .slc none 0 true ∧ h' = h := by
  apply x25n; exact ⟨rfl, rfl⟩
theorem n26 (x0 x1 x2 x3 x4 x5 x6 x7 x8 x9 x10 : Int) (x11 : List UInt8) (now : Int) : XCalls Tryz.prog 26 [.ptr none, .agg (xRow x0 x1 x2 x3 x4 x5 x6 x7 x8 x9 x10 x11), .int .i64 now] h fun v h' => v = .int .i64 1 := by
  apply x26n; intro h' _; rfl
theorem n27 : XCalls Tryz.prog 27 [.ptr none] h fun v h' => v = .int .i64 0 ∧ h' = h := by
  apply x27n; exact ⟨rfl, rfl⟩
theorem n29 (n now : Int) : XCalls Tryz.prog 29 [.ptr none, .int .i64 n, .int .i64 now] h fun v h' => v = .str [] ∧ h' = h := by
  apply x29n; exact ⟨rfl, rfl⟩
theorem n31 : XCalls Tryz.prog 31 [.ptr none] h fun v h' => v = .tup [.int .u32 0, .int .u32 0, .int .u32 0] ∧ h' = h := by
  apply x31n; exact ⟨rfl, rfl⟩
theorem n35 : XCalls Tryz.prog 35 [.ptr none] h fun v h' => v = .int .u8 0 ∧ h' = h := by
  apply x35n; exact ⟨rfl, rfl⟩
theorem n46 : XCalls Tryz.prog 46 [.ptr none] h fun v h' => v = .int .i64 0 ∧ h' = h := by
  apply x46n; exact ⟨rfl, rfl⟩
theorem n49 (now : Int) : XCalls Tryz.prog 49 [.ptr none, .int .i64 now] h fun v h' => v = .int .i64 1 ∧ h' = h := by
  apply x49n; exact ⟨rfl, rfl⟩
theorem n50 (now : Int) : XCalls Tryz.prog 50 [.ptr none, .int .i64 now] h fun v h' => v = .int .i64 1 ∧ h' = h := by
  apply x50n; exact ⟨rfl, rfl⟩
theorem n51 : XCalls Tryz.prog 51 [.ptr none] h fun v h' => v = .bool false ∧ h' = h := by
  apply x51n; exact ⟨rfl, rfl⟩
theorem n52 : XCalls Tryz.prog 52 [.ptr none] h fun v h' => v = .bool false ∧ h' = h := by
  apply x52n; exact ⟨rfl, rfl⟩
end

theorem z0 (m : Bool) : ((bif m then (0 : Int) else 2) == 0) = m := by cases m <;> rfl
theorem z2 (m : Bool) : ((bif m then (0 : Int) else 2) != 2) = m := by cases m <;> rfl

set_option maxRecDepth 20000 in
theorem law_calls (c0 : Int) {p0 : Prop} (_ : p0) (c1 : Int) {p1 : Prop} (_ : p1) (c2 : Int) {p2 : Prop} (_ : p2) (c3 : Int) {p3 : Prop} (_ : p3) (c4 : Int) {p4 : Prop} (_ : p4) (c5 : Int) {p5 : Prop} (_ : p5) (c6 : Int) {p6 : Prop} (_ : p6)
    (c7 : Int) {p7 : Prop} (_ : p7) (c8 : Int) {p8 : Prop} (_ : p8) (c9 : Bool) (c10 : Int) {p10 : Prop} (_ : p10) (c11 : Int) {p11 : Prop} (_ : p11) (c12 : Int) {p12 : Prop} (_ : p12) (c13 : Int) {p13 : Prop} (_ : p13) (now : Int) {pn : Prop} (_ : pn)
    (x0 : Int) {q0 : Prop} (_ : q0) (x1 : Int) {q1 : Prop} (_ : q1) (x2 : Int) {q2 : Prop} (_ : q2) (x3 : Int) {q3 : Prop} (_ : q3) (x4 : Int) {q4 : Prop} (_ : q4) (x5 : Int) {q5 : Prop} (_ : q5) (x6 : Int) {q6 : Prop} (_ : q6)
    (x7 : Int) {q7 : Prop} (_ : q7) (x8 : Int) {q8 : Prop} (_ : q8) (x9 : Int) {q9 : Prop} (_ : q9) (x10 : Int) {q10 : Prop} (_ : q10) (x11 : List UInt8) {h : Hp} :
    XCalls Tryz.prog 11 [.agg (cRow c0 c1 c2 c3 c4 c5 c6 c7 c8 c9 c10 c11 c12 c13), .int .i64 now, .agg (xRow x0 x1 x2 x3 x4 x5 x6 x7 x8 x9 x10 x11)] h fun v _ => v = .bool true := by
  refine XCalls.ofWf fun hw => ?_
  refine XCalls.cps fun K hK => ?_
  have KT : ∀ h', K (.bool true) h' := fun h' => hK _ _ rfl
  apply Go.Vex.x11; unfold X11
  rintro h1 rfl
  rintro h2 rfl
  have n1 : (h.alloc (.row (cRow c0 c1 c2 c3 c4 c5 c6 c7 c8 c9 c10 c11 c12 c13) 1 false)).next = h.next + 1 := rfl
  rw [n1]
  have a2 : Ab h.next h ((h.alloc (.row (cRow c0 c1 c2 c3 c4 c5 c6 c7 c8 c9 c10 c11 c12 c13) 1 false)).alloc (.row (xRow x0 x1 x2 x3 x4 x5 x6 x7 x8 x9 x10 x11) 1 false)) :=
    (Ab.alloc hw (Nat.le_refl _) _).trans (Ab.alloc hw.alloc (by rw [Hp.alloc_next]; omega) _)
  have hc : ((h.alloc (.row (cRow c0 c1 c2 c3 c4 c5 c6 c7 c8 c9 c10 c11 c12 c13) 1 false)).alloc (.row (xRow x0 x1 x2 x3 x4 x5 x6 x7 x8 x9 x10 x11) 1 false)).get h.next = some (.row (cRow c0 c1 c2 c3 c4 c5 c6 c7 c8 c9 c10 c11 c12 c13) 1 false) := by
    rw [Hp.get_alloc_ne (by rw [Hp.alloc_next]; omega)]; exact Hp.get_alloc_self
  have hx : ((h.alloc (.row (cRow c0 c1 c2 c3 c4 c5 c6 c7 c8 c9 c10 c11 c12 c13) 1 false)).alloc (.row (xRow x0 x1 x2 x3 x4 x5 x6 x7 x8 x9 x10 x11) 1 false)).get (h.next + 1) = some (.row (xRow x0 x1 x2 x3 x4 x5 x6 x7 x8 x9 x10 x11) 1 false) := Hp.get_alloc_self
  have n2 : ((h.alloc (.row (cRow c0 c1 c2 c3 c4 c5 c6 c7 c8 c9 c10 c11 c12 c13) 1 false)).alloc (.row (xRow x0 x1 x2 x3 x4 x5 x6 x7 x8 x9 x10 x11) 1 false)).next = h.next + 2 := rfl
  generalize (h.alloc (.row (cRow c0 c1 c2 c3 c4 c5 c6 c7 c8 c9 c10 c11 c12 c13) 1 false)).alloc (.row (xRow x0 x1 x2 x3 x4 x5 x6 x7 x8 x9 x10 x11) 1 false) = h2 at *
  have ld : ∀ {o v}, (cRow c0 c1 c2 c3 c4 c5 c6 c7 c8 c9 c10 c11 c12 c13)[o]? = some v → h2.ld h.next o = some v := fun {o v} e => by rw [Hp.ld_of hc]; exact e
  refine ⟨x11, by rw [Hp.ld_of hx]; rfl, ?_⟩
  cases ltI 4096 x11.length with
  | true =>
    refine works_spec fun h' => ⟨_, rfl, KT h'⟩
  | false =>
  refine ⟨fun vs g => vs = [.bool (!ltI c5 64 && !ltI 1460 c5 && !ltI c6 (-1) && !ltI 14 c6 && !ltI c7 1 && !ltI 16384 c7 && !ltI c8 1 && !ltI 16384 c8 && !ltI c10 0 && !ltI 1073741824 c10 && !ltI c11 0 && !ltI 1073741824 c11 &&
    !ltI c12 1 && !ltI 16 c12 && !ltI c13 1 && !ltI 1073741824 c13 && (ltI c6 0 || ltI 0 (c8.fdiv (2 ^ c6.toNat))) && !ltI now 0 && !ltI 17592186044416 now)] ∧ g = h2, ?_, ?_⟩
  · refine ⟨c5, ld rfl, ?_⟩
    cases ltI c5 64 with
    | true => exact ⟨rfl, rfl, rfl⟩
    | false =>
    refine ⟨c5, ld rfl, ?_⟩
    cases ltI 1460 c5 with
    | true => exact ⟨rfl, rfl, rfl⟩
    | false =>
    refine ⟨c6, ld rfl, ?_⟩
    cases e3 : ltI c6 (-1) with
    | true => exact ⟨rfl, rfl, rfl⟩
    | false =>
    refine ⟨c6, ld rfl, ?_⟩
    cases e4 : ltI 14 c6 with
    | true => exact ⟨rfl, rfl, rfl⟩
    | false =>
    refine ⟨c7, ld rfl, ?_⟩
    cases ltI c7 1 with
    | true => exact ⟨rfl, rfl, rfl⟩
    | false =>
    refine ⟨c7, ld rfl, ?_⟩
    cases ltI 16384 c7 with
    | true => exact ⟨rfl, rfl, rfl⟩
    | false =>
    refine ⟨c8, ld rfl, ?_⟩
    cases ltI c8 1 with
    | true => exact ⟨rfl, rfl, rfl⟩
    | false =>
    refine ⟨c8, ld rfl, ?_⟩
    cases ltI 16384 c8 with
    | true => exact ⟨rfl, rfl, rfl⟩
    | false =>
    refine ⟨c10, ld rfl, ?_⟩
    cases ltI c10 0 with
    | true => exact ⟨rfl, rfl, rfl⟩
    | false =>
    refine ⟨c10, ld rfl, ?_⟩
    cases ltI 1073741824 c10 with
    | true => exact ⟨rfl, rfl, rfl⟩
    | false =>
    refine ⟨c11, ld rfl, ?_⟩
    cases ltI c11 0 with
    | true => exact ⟨rfl, rfl, rfl⟩
    | false =>
    refine ⟨c11, ld rfl, ?_⟩
    cases ltI 1073741824 c11 with
    | true => exact ⟨rfl, rfl, rfl⟩
    | false =>
    refine ⟨c12, ld rfl, ?_⟩
    cases ltI c12 1 with
    | true => exact ⟨rfl, rfl, rfl⟩
    | false =>
    refine ⟨c12, ld rfl, ?_⟩
    cases ltI 16 c12 with
    | true => exact ⟨rfl, rfl, rfl⟩
    | false =>
    refine ⟨c13, ld rfl, ?_⟩
    cases ltI c13 1 with
    | true => exact ⟨rfl, rfl, rfl⟩
    | false =>
    refine ⟨c13, ld rfl, ?_⟩
    cases ltI 1073741824 c13 with
    | true => exact ⟨rfl, rfl, rfl⟩
    | false =>
    refine ⟨c6, ld rfl, ?_⟩
    cases e6 : ltI c6 0 with
    | true =>
      cases ltI now 0 with
      | true => exact ⟨rfl, rfl, rfl⟩
      | false => exact ⟨rfl, rfl, rfl⟩
    | false =>
    have h6 : ¬ c6 < 0 := by simpa [ltI_eq] using e6
    have h14 : ¬ 14 < c6 := by simpa [ltI_eq] using e4
    have e30 : ltI 30 c6 = false := by rw [ltI_eq]; exact decide_eq_false (by omega)
    have ew : IntKind.u64.wrap c6 = c6 := by
      show c6 % 18446744073709551616 = c6
      exact Int.emod_eq_of_lt (by omega) (by omega)
    have hm : min c6.toNat IntKind.i64.bits = c6.toNat := Nat.min_eq_left (by show c6.toNat ≤ 64; omega)
    refine ⟨c8, ld rfl, c6, ld rfl, ?_⟩
    rw [e30]
    show ¬ IntKind.u64.wrap c6 < 0 ∧ _
    refine ⟨by rw [ew]; exact h6, ?_⟩
    show bif ltI 0 (c8.fdiv (2 ^ min (IntKind.u64.wrap c6).toNat IntKind.i64.bits)) then _ else _
    rw [ew, hm]
    cases ltI 0 (c8.fdiv (2 ^ c6.toNat)) with
    | false => exact ⟨rfl, rfl, rfl⟩
    | true =>
      cases ltI now 0 with
      | true => exact ⟨rfl, rfl, rfl⟩
      | false => exact ⟨rfl, rfl, rfl⟩
  rintro bs b2 g ⟨e, rfl⟩
  have e' : b2 = mayB c5 c6 c7 c8 c10 c11 c12 c13 now := by cases e; rfl
  subst e'
  refine ⟨c0, c1, c2, c3, c4, c5, c6, c7, c8, c9, c10, c11, c12, c13, by rw [Hp.lda_of hc (Nat.le_of_ble_eq_true rfl)]; rfl, (open_spec a2.wf c0 c1 c2 c3 c4 c5 c6 c7 c8 c9 c10 c11 c12 c13 now).mono ?_⟩
  rintro _ h3 ⟨a3, p1, rfl, e1⟩
  have hc3 : h3.get h.next = some (.row (cRow c0 c1 c2 c3 c4 c5 c6 c7 c8 c9 c10 c11 c12 c13) 1 false) := by rw [a3.same _ (by omega)]; exact hc
  have hx3 : h3.get (h.next + 1) = some (.row (xRow x0 x1 x2 x3 x4 x5 x6 x7 x8 x9 x10 x11) 1 false) := by rw [a3.same _ (by omega)]; exact hx
  have l3 := a3.le
  refine ⟨_, _, rfl, c0, c1, c2, c3, c4, c5, c6, c7, c8, c9, c10, c11, c12, c13, by rw [Hp.lda_of hc3 (Nat.le_of_ble_eq_true rfl)]; rfl, x0, x1, x2, x3, x4, x5, x6, x7, x8, x9, x10, x11, by rw [Hp.lda_of hx3 (Nat.le_of_ble_eq_true rfl)]; rfl,
    (answer_spec a3.wf c0 c1 c2 c3 c4 c5 c6 c7 c8 c9 c10 c11 c12 c13 x0 x1 x2 x3 x4 x5 x6 x7 x8 x9 x10 x11 now).mono ?_⟩
  rintro _ h4 ⟨a4, p2, rfl, e2⟩
  have l4 := a4.le
  have hc4 : h4.get h.next = some (.row (cRow c0 c1 c2 c3 c4 c5 c6 c7 c8 c9 c10 c11 c12 c13) 1 false) := by rw [a4.same _ (by omega)]; exact hc3
  have hx4 : h4.get (h.next + 1) = some (.row (xRow x0 x1 x2 x3 x4 x5 x6 x7 x8 x9 x10 x11) 1 false) := by rw [a4.same _ (by omega)]; exact hx3
  refine ⟨_, _, rfl, fun vs g => vs = [.bool ((bits BinOp.and .u8 x6 23 == 2) && segB x6 x9 x10 && (x0 == c2 && (x1 == c3 && true) && (x2 == c0 && (x3 == c1 && true) && true)))] ∧ g.get (h.next + 1) = some (.row (xRow x0 x1 x2 x3 x4 x5 x6 x7 x8 x9 x10 x11) 1 false), ⟨x6, by rw [Hp.ld_of hx4]; rfl, ?_⟩, ?_⟩
  · cases (bits BinOp.and .u8 x6 23 == 2) with
    | false => exact ⟨rfl, rfl, hx4⟩
    | true =>
    refine ⟨x0, x1, x2, x3, x4, x5, x6, x7, x8, x9, x10, x11, by rw [Hp.lda_of hx4 (Nat.le_of_ble_eq_true rfl)]; rfl, (seg_spec a4.wf x0 x1 x2 x3 x4 x5 x6 x7 x8 x9 x10 x11).mono ?_⟩
    rintro _ h5 ⟨rfl, a5⟩
    have hc5 : h5.get h.next = some (.row (cRow c0 c1 c2 c3 c4 c5 c6 c7 c8 c9 c10 c11 c12 c13) 1 false) := by rw [a5.same _ (by omega)]; exact hc4
    have hx5 : h5.get (h.next + 1) = some (.row (xRow x0 x1 x2 x3 x4 x5 x6 x7 x8 x9 x10 x11) 1 false) := by rw [a5.same _ (by omega)]; exact hx4
    have l5 := a5.le
    refine ⟨_, rfl, ?_⟩
    cases segB x6 x9 x10 with
    | false => exact ⟨rfl, rfl, hx5⟩
    | true =>
    refine ⟨x0, x1, x2, x3, by rw [Hp.lda_of hx5 (Nat.le_of_ble_eq_true rfl)]; rfl, c0, c1, c2, c3, by rw [Hp.lda_of hc5 (Nat.le_of_ble_eq_true rfl)]; rfl, (turn_spec a5.wf c0 c1 c2 c3).mono ?_⟩
    rintro _ h6 ⟨rfl, a6⟩
    have hx6 : h6.get (h.next + 1) = some (.row (xRow x0 x1 x2 x3 x4 x5 x6 x7 x8 x9 x10 x11) 1 false) := by rw [a6.same _ (by omega)]; exact hx5
    exact ⟨_, _, _, _, rfl, ⟨x0, x1, x2, x3, by rw [Hp.lda_of hx6 (Nat.le_of_ble_eq_true rfl)]; rfl, rfl⟩, rfl, rfl, rfl, hx6⟩
  rintro bs2 b6 g ⟨e, hxg⟩
  have e' : b6 = ansB c0 c1 c2 c3 x0 x1 x2 x3 x6 x9 x10 := by
    cases e
    unfold ansB
    cases (bits BinOp.and .u8 x6 23 == 2) <;> simp
  subst e'
  refine ⟨fun _ g => g.get (h.next + 1) = some (.row (xRow x0 x1 x2 x3 x4 x5 x6 x7 x8 x9 x10 x11) 1 false), ?_, ?_⟩
  · rw [e1, e2, z0, z0, z2, z2]
    generalize mayB c5 c6 c7 c8 c10 c11 c12 c13 now = m
    generalize ansB c0 c1 c2 c3 x0 x1 x2 x3 x6 x9 x10 = a
    cases m <;> cases a <;> exact ⟨rfl, hxg⟩
  rintro bs3 g hxg
  refine (n42 _ _).mono ?_
  rintro _ g' ⟨rfl, e⟩; subst e
  refine ⟨_, _, rfl, n17.mono ?_⟩
  rintro _ g' ⟨rfl, e⟩; subst e
  refine ⟨_, _, rfl, n31.mono ?_⟩
  rintro _ g' ⟨rfl, e⟩; subst e
  refine ⟨_, _, _, rfl, x0, x1, x2, x3, x4, x5, x6, x7, x8, x9, x10, x11, by rw [Hp.lda_of hxg (Nat.le_of_ble_eq_true rfl)]; rfl, (n26 x0 x1 x2 x3 x4 x5 x6 x7 x8 x9 x10 x11 now).mono ?_⟩
  rintro _ g rfl
  refine ⟨_, rfl, (n24 now).mono ?_⟩
  rintro _ g' ⟨rfl, e⟩; subst e
  refine ⟨_, rfl, (n29 5 now).mono ?_⟩
  rintro _ g' ⟨rfl, e⟩; subst e
  refine ⟨_, rfl, (n43 now).mono ?_⟩
  rintro _ g' ⟨rfl, e⟩; subst e
  refine ⟨_, rfl, (n48 now).mono ?_⟩
  rintro _ g' ⟨rfl, e⟩; subst e
  refine ⟨_, rfl, (n49 now).mono ?_⟩
  rintro _ g' ⟨rfl, e⟩; subst e
  refine ⟨_, rfl, (n50 now).mono ?_⟩
  rintro _ g' ⟨rfl, e⟩; subst e
  refine ⟨_, rfl, n25.mono ?_⟩
  rintro _ g' ⟨rfl, e⟩; subst e
  refine ⟨_, _, _, rfl, n35.mono ?_⟩
  rintro _ g' ⟨rfl, e⟩; subst e
  refine ⟨_, rfl, n18.mono ?_⟩
  rintro _ g' ⟨rfl, e⟩; subst e
  refine ⟨_, rfl, n51.mono ?_⟩
  rintro _ g' ⟨rfl, e⟩; subst e
  refine ⟨_, rfl, n27.mono ?_⟩
  rintro _ g' ⟨rfl, e⟩; subst e
  refine ⟨_, rfl, n46.mono ?_⟩
  rintro _ g' ⟨rfl, e⟩; subst e
  refine ⟨_, rfl, n52.mono ?_⟩
  rintro _ g' ⟨rfl, e⟩; subst e
  exact ⟨_, rfl, works_spec fun h' => ⟨_, rfl, KT h'⟩⟩
end Go.Vex.TcbConfs

namespace Go.Proofs.YtkfnokgfgcfldaaGreat.tcbConfs
open Go.ChangeShapes Go.WideShapes Go.ChangeAt Go.RowKit Go.Vex Go.Vex.TcbConfs
open Go.ChangeMaps (open_string shut_string)

theorem own : ownKnob Tryz.prog.godebug = none := by kernel_rfl

set_option maxRecDepth 100000 in
theorem lifted (os : Os) (started : os.Started) (H : Type) (enc : TypeId × Value → H) :
    ReturnsInHanded {} Tryz.checked os 11 .any (Rows.tcbConfsSpec.pre6 enc Tryz.prog Tryz.f11 Rows.tcbConfsRow.domain false) (Rows.tcbConfsSpec.post enc Tryz.prog Tryz.f11 false true false false) := by
  refine returnsInHanded_of_change_sized (C := Tryz.checked) own started (by kernel_rfl) Tryz.func11
    (ChangeSpec.witness6 (enc := enc) (C := Tryz.checked) false ⟨#[], #[.agg #[.int .u32 0, .int .u16 0, .int .u32 0, .int .u16 0, .int .u32 0, .int .i64 0, .int .i64 0, .int .i64 0, .int .i64 0, .bool false, .int .i64 0, .int .i64 0, .int .i64 0, .int .i64 0], .int .i64 0, .agg #[.int .u32 0, .int .u16 0, .int .u32 0, .int .u16 0, .int .u32 0, .int .u32 0, .int .u8 0, .int .u16 0, .int .u16 0, .int .u16 0, .int .i64 0, .string ⟨#[]⟩]], []⟩ 8 (by kernel_rfl) (by kernel_rfl) (by kernel_rfl) (by kernel_rfl)) ?_
  intro W base args ds gs before hval0 hW hcnd hsz _
  have hval : ∀ (j : Nat) t v, Tryz.f11.params[j]? = some t → args[j]? = some v → Value.okWide Tryz.prog W .any base t v := hval0
  have hW' := hW
  obtain ⟨p, q, hA0, hV, rfl, hfz, hnd⟩ := hW
  have hA : DataW.TrodAll enc Tryz.prog W 0 (fun _ => true) true Tryz.f11.params.toList args.toList ds p := hA0
  rw [Tryz.params11] at hA hval hsz
  obtain ⟨v0, vs0, d0, ds0, p0, q0, hargs, rfl, rfl, h0, r0⟩ := trodAll_cons hA
  obtain ⟨v1, vs1, d1, ds1, p1, q1, rfl, rfl, rfl, h1, r1⟩ := trodAll_cons r0
  obtain ⟨v2, vs2, d2, ds2, p2, q2, rfl, rfl, rfl, h2, r2⟩ := trodAll_cons r1
  obtain ⟨rfl, rfl, rfl⟩ := trodAll_nil r2
  obtain rfl : args = #[v0, v1, v2] := by cases args; simp_all
  obtain ⟨rfl, rfl⟩ := trodVars_none hV
  obtain ⟨cs0, rfl, hsz0, hc0⟩ := open_flat Tryz.underlying52 (ts := [22, 31, 22, 31, 22, 3, 3, 3, 3, 4, 2, 2, 3, 2]) (by kernel_rfl) (by kernel_rfl) (hval 0 52 v0 rfl rfl)
  obtain ⟨x0_0, hx0_0, ok0_0⟩ := hc0 0 22 rfl
  obtain ⟨a0_0, rfl, b0_0⟩ := cell_intB Tryz.underlying22 ok0_0
  obtain ⟨x0_1, hx0_1, ok0_1⟩ := hc0 1 31 rfl
  obtain ⟨a0_1, rfl, b0_1⟩ := cell_intB Tryz.underlying31 ok0_1
  obtain ⟨x0_2, hx0_2, ok0_2⟩ := hc0 2 22 rfl
  obtain ⟨a0_2, rfl, b0_2⟩ := cell_intB Tryz.underlying22 ok0_2
  obtain ⟨x0_3, hx0_3, ok0_3⟩ := hc0 3 31 rfl
  obtain ⟨a0_3, rfl, b0_3⟩ := cell_intB Tryz.underlying31 ok0_3
  obtain ⟨x0_4, hx0_4, ok0_4⟩ := hc0 4 22 rfl
  obtain ⟨a0_4, rfl, b0_4⟩ := cell_intB Tryz.underlying22 ok0_4
  obtain ⟨x0_5, hx0_5, ok0_5⟩ := hc0 5 3 rfl
  obtain ⟨a0_5, rfl, b0_5⟩ := cell_intB Tryz.underlying3 ok0_5
  obtain ⟨x0_6, hx0_6, ok0_6⟩ := hc0 6 3 rfl
  obtain ⟨a0_6, rfl, b0_6⟩ := cell_intB Tryz.underlying3 ok0_6
  obtain ⟨x0_7, hx0_7, ok0_7⟩ := hc0 7 3 rfl
  obtain ⟨a0_7, rfl, b0_7⟩ := cell_intB Tryz.underlying3 ok0_7
  obtain ⟨x0_8, hx0_8, ok0_8⟩ := hc0 8 3 rfl
  obtain ⟨a0_8, rfl, b0_8⟩ := cell_intB Tryz.underlying3 ok0_8
  obtain ⟨x0_9, hx0_9, ok0_9⟩ := hc0 9 4 rfl
  obtain ⟨a0_9, rfl⟩ := cell_bool Tryz.underlying4 ok0_9
  obtain ⟨x0_10, hx0_10, ok0_10⟩ := hc0 10 2 rfl
  obtain ⟨a0_10, rfl, b0_10⟩ := cell_intB Tryz.underlying2 ok0_10
  obtain ⟨x0_11, hx0_11, ok0_11⟩ := hc0 11 2 rfl
  obtain ⟨a0_11, rfl, b0_11⟩ := cell_intB Tryz.underlying2 ok0_11
  obtain ⟨x0_12, hx0_12, ok0_12⟩ := hc0 12 3 rfl
  obtain ⟨a0_12, rfl, b0_12⟩ := cell_intB Tryz.underlying3 ok0_12
  obtain ⟨x0_13, hx0_13, ok0_13⟩ := hc0 13 2 rfl
  obtain ⟨a0_13, rfl, b0_13⟩ := cell_intB Tryz.underlying2 ok0_13
  obtain rfl := arr_of (l := [.int .u32 a0_0, .int .u16 a0_1, .int .u32 a0_2, .int .u16 a0_3, .int .u32 a0_4, .int .i64 a0_5, .int .i64 a0_6, .int .i64 a0_7, .int .i64 a0_8, .bool a0_9, .int .i64 a0_10, .int .i64 a0_11, .int .i64 a0_12, .int .i64 a0_13]) hsz0 (fun j x hj => by
    match j, hj with
    | 0, hj => cases hj; exact hx0_0
    | 1, hj => cases hj; exact hx0_1
    | 2, hj => cases hj; exact hx0_2
    | 3, hj => cases hj; exact hx0_3
    | 4, hj => cases hj; exact hx0_4
    | 5, hj => cases hj; exact hx0_5
    | 6, hj => cases hj; exact hx0_6
    | 7, hj => cases hj; exact hx0_7
    | 8, hj => cases hj; exact hx0_8
    | 9, hj => cases hj; exact hx0_9
    | 10, hj => cases hj; exact hx0_10
    | 11, hj => cases hj; exact hx0_11
    | 12, hj => cases hj; exact hx0_12
    | 13, hj => cases hj; exact hx0_13
    | j + 14, hj => simp at hj)
  obtain ⟨a1, rfl, rfl, rfl, w1⟩ := open_int Tryz.underlying2 (hval 1 2 v1 rfl rfl) h1
  obtain ⟨cs2, rfl, hsz2, hc2⟩ := open_flat Tryz.underlying61 (ts := [22, 31, 22, 31, 22, 22, 5, 31, 31, 31, 3, 9]) (by kernel_rfl) (by kernel_rfl) (hval 2 61 v2 rfl rfl)
  obtain ⟨x2_0, hx2_0, ok2_0⟩ := hc2 0 22 rfl
  obtain ⟨a2_0, rfl, b2_0⟩ := cell_intB Tryz.underlying22 ok2_0
  obtain ⟨x2_1, hx2_1, ok2_1⟩ := hc2 1 31 rfl
  obtain ⟨a2_1, rfl, b2_1⟩ := cell_intB Tryz.underlying31 ok2_1
  obtain ⟨x2_2, hx2_2, ok2_2⟩ := hc2 2 22 rfl
  obtain ⟨a2_2, rfl, b2_2⟩ := cell_intB Tryz.underlying22 ok2_2
  obtain ⟨x2_3, hx2_3, ok2_3⟩ := hc2 3 31 rfl
  obtain ⟨a2_3, rfl, b2_3⟩ := cell_intB Tryz.underlying31 ok2_3
  obtain ⟨x2_4, hx2_4, ok2_4⟩ := hc2 4 22 rfl
  obtain ⟨a2_4, rfl, b2_4⟩ := cell_intB Tryz.underlying22 ok2_4
  obtain ⟨x2_5, hx2_5, ok2_5⟩ := hc2 5 22 rfl
  obtain ⟨a2_5, rfl, b2_5⟩ := cell_intB Tryz.underlying22 ok2_5
  obtain ⟨x2_6, hx2_6, ok2_6⟩ := hc2 6 5 rfl
  obtain ⟨a2_6, rfl, b2_6⟩ := cell_intB Tryz.underlying5 ok2_6
  obtain ⟨x2_7, hx2_7, ok2_7⟩ := hc2 7 31 rfl
  obtain ⟨a2_7, rfl, b2_7⟩ := cell_intB Tryz.underlying31 ok2_7
  obtain ⟨x2_8, hx2_8, ok2_8⟩ := hc2 8 31 rfl
  obtain ⟨a2_8, rfl, b2_8⟩ := cell_intB Tryz.underlying31 ok2_8
  obtain ⟨x2_9, hx2_9, ok2_9⟩ := hc2 9 31 rfl
  obtain ⟨a2_9, rfl, b2_9⟩ := cell_intB Tryz.underlying31 ok2_9
  obtain ⟨x2_10, hx2_10, ok2_10⟩ := hc2 10 3 rfl
  obtain ⟨a2_10, rfl, b2_10⟩ := cell_intB Tryz.underlying3 ok2_10
  obtain ⟨x2_11, hx2_11, ok2_11⟩ := hc2 11 9 rfl
  obtain ⟨a2_11, rfl⟩ := cell_string Tryz.underlying9 ok2_11
  obtain rfl := arr_of (l := [.int .u32 a2_0, .int .u16 a2_1, .int .u32 a2_2, .int .u16 a2_3, .int .u32 a2_4, .int .u32 a2_5, .int .u8 a2_6, .int .u16 a2_7, .int .u16 a2_8, .int .u16 a2_9, .int .i64 a2_10, .string a2_11]) hsz2 (fun j x hj => by
    match j, hj with
    | 0, hj => cases hj; exact hx2_0
    | 1, hj => cases hj; exact hx2_1
    | 2, hj => cases hj; exact hx2_2
    | 3, hj => cases hj; exact hx2_3
    | 4, hj => cases hj; exact hx2_4
    | 5, hj => cases hj; exact hx2_5
    | 6, hj => cases hj; exact hx2_6
    | 7, hj => cases hj; exact hx2_7
    | 8, hj => cases hj; exact hx2_8
    | 9, hj => cases hj; exact hx2_9
    | 10, hj => cases hj; exact hx2_10
    | 11, hj => cases hj; exact hx2_11
    | j + 12, hj => simp at hj)
  refine (XCalls.true' (Sat.none W fun _ => ⟨0, 0, 0, 0⟩) (vs := [.agg [.int .u32 a0_0, .int .u16 a0_1, .int .u32 a0_2, .int .u16 a0_3, .int .u32 a0_4, .int .i64 a0_5, .int .i64 a0_6, .int .i64 a0_7, .int .i64 a0_8, .bool a0_9, .int .i64 a0_10, .int .i64 a0_11, .int .i64 a0_12, .int .i64 a0_13], .int .i64 a1, .agg [.int .u32 a2_0, .int .u16 a2_1, .int .u32 a2_2, .int .u16 a2_3, .int .u32 a2_4, .int .u32 a2_5, .int .u8 a2_6, .int .u16 a2_7, .int .u16 a2_8, .int .u16 a2_9, .int .i64 a2_10, .str a2_11.data.toList]]) ⟨_, _, rfl, ⟨_, rfl, ⟨_, _, rfl, rfl, ⟨_, _, rfl, rfl, ⟨_, _, rfl, rfl, ⟨_, _, rfl, rfl, ⟨_, _, rfl, rfl, ⟨_, _, rfl, rfl, ⟨_, _, rfl, rfl, ⟨_, _, rfl, rfl, ⟨_, _, rfl, rfl, ⟨_, _, rfl, rfl, ⟨_, _, rfl, rfl, ⟨_, _, rfl, rfl, ⟨_, _, rfl, rfl, ⟨_, _, rfl, rfl, rfl⟩⟩⟩⟩⟩⟩⟩⟩⟩⟩⟩⟩⟩⟩⟩, ⟨_, _, rfl, rfl, ⟨_, _, rfl, ⟨_, rfl, ⟨_, _, rfl, rfl, ⟨_, _, rfl, rfl, ⟨_, _, rfl, rfl, ⟨_, _, rfl, rfl, ⟨_, _, rfl, rfl, ⟨_, _, rfl, rfl, ⟨_, _, rfl, rfl, ⟨_, _, rfl, rfl, ⟨_, _, rfl, rfl, ⟨_, _, rfl, rfl, ⟨_, _, rfl, rfl, ⟨_, _, rfl, rfl, rfl⟩⟩⟩⟩⟩⟩⟩⟩⟩⟩⟩⟩⟩, rfl⟩⟩⟩ (law_calls a0_0 b0_0 a0_1 b0_1 a0_2 b0_2 a0_3 b0_3 a0_4 b0_4 a0_5 b0_5 a0_6 b0_6 a0_7 b0_7 a0_8 b0_8 a0_9 a0_10 b0_10 a0_11 b0_11 a0_12 b0_12 a0_13 b0_13 a1 w1 a2_0 b2_0 a2_1 b2_1 a2_2 b2_2 a2_3 b2_3 a2_4 b2_4 a2_5 b2_5 a2_6 b2_6 a2_7 b2_7 a2_8 b2_8 a2_9 b2_9 a2_10 b2_10 a2_11.data.toList)).mono fun e W' ⟨he, hb⟩ => ?_
  subst he
  exact ⟨_, rfl, post_true (by kernel_rfl) hW' hb rfl (fun gs hg => by subst hg; rfl) (tb := 4) rfl Tryz.underlying4 (by decide +kernel)⟩

theorem over : Rows.tcbConfsRow.holds Tryz.pinned (OpenSpec.ofChange Rows.tcbConfsSpec) :=
  OpenClaim.holds_of_wide 11 Tryz.f11 rfl rfl rfl rfl rfl rfl rfl ⟨rfl, rfl, rfl, rfl, rfl⟩ rfl rfl rfl rfl rfl (by kernel_rfl) Tryz.func11 (by kernel_rfl)
    (of_decide_eq_true (by kernel_rfl)) (by unfold Func.isWrapper; first | (rw [if_pos (by decide +kernel)]; kernel_rfl) | (rw [if_neg (by decide +kernel)]; exact ⟨rfl, rfl⟩))
    (fun os started H enc _ => lifted os started H enc)

theorem proved : Rows.TcbConfsSaid :=
  over
#print axioms proved
end Go.Proofs.YtkfnokgfgcfldaaGreat.tcbConfs

