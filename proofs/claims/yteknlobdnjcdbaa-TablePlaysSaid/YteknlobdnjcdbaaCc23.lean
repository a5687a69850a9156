/-
  Hash and Shard (layer 23).
-/
import Derived.Test.YteknlobdnjcdbaaVexFF
import Derived.Test.YteknlobdnjcdbaaTab23
import Derived.Test.YteknlobdnjcdbaaXa23
import Derived.Test.YteknlobdnjcdbaaCa23
import Derived.Test.YteknlobdnjcdbaaCb23
set_option linter.unusedVariables false
set_option linter.unusedSimpArgs false
namespace Go.Vex.Tbl
open Go.Proofs

def shV (k : Nat) : Nat := (IntKind.i64.wrap (7 - (k : Int).tmod 8)).toNat
def bitV (b : UInt8) (k : Nat) : Int := bits .and .u8 ((b.toNat : Int).fdiv (2 ^ min (shV k) IntKind.u8.bits)) 1
def nextW (w : Int) (b : UInt8) (k : Nat) : Int := bits .or .u32 (IntKind.u32.wrap (w * 2 ^ min (Int.toNat 1) IntKind.u32.bits)) (bits .and .u32 (IntKind.u32.wrap ((b.toNat : Int).fdiv (2 ^ min (shV k) IntKind.u8.bits))) 1)
def kb (k : Nat) : UInt8 := (keyOf[k / 8 + 4]?).getD 0
def w0 : Int := bits .or .u32 (bits .or .u32 (bits .or .u32 (IntKind.u32.wrap (IntKind.u32.wrap (↑(109 : UInt8).toNat) * 2 ^ min (Int.toNat 24) IntKind.u32.bits)) (IntKind.u32.wrap (IntKind.u32.wrap (↑(90 : UInt8).toNat) * 2 ^ min (Int.toNat 16) IntKind.u32.bits))) (IntKind.u32.wrap (IntKind.u32.wrap (↑(109 : UInt8).toNat) * 2 ^ min (Int.toNat 8) IntKind.u32.bits))) (IntKind.u32.wrap (↑(90 : UInt8).toNat))
def winI : Nat → Int
  | 0 => w0
  | k + 1 => nextW (winI k) (kb k) k
def xorI (a b : Int) : Int := bits .xor .u32 a b
def hashI (t : List UInt8) : Nat → Int
  | 0 => 0
  | k + 1 => bif bitV ((t[k / 8]?).getD 0) k == 1 then xorI (hashI t k) (winI k) else hashI t k

theorem hash_spec {h : Hp} {t : List UInt8} (ht : t.length = 12) : XCalls Try.prog 40 [.str keyOf, .str t] h fun v h' => v = .tup [.int .u32 (hashI t 96), .int .i64 0] ∧ h' = h := by
  refine XCalls.cps fun K hK => ?_
  apply x40; unfold X40
  have kl : (↑keyOf.length : Int) = 40 := rfl
  have tl : (↑t.length : Int) = 12 := by rw [ht]; rfl
  have tb : ∀ k, k < 96 → ∃ b, t[k / 8]? = some b ∧ (t[k / 8]?).getD 0 = b := fun k hk => by
    have : k / 8 < t.length := by omega
    exact ⟨t[k / 8], List.getElem?_eq_getElem this, by rw [List.getElem?_eq_getElem this]; rfl⟩
  have kk : ∀ k, k < 96 → keyOf[k / 8 + 4]? = some (kb k) := fun k hk => by
    have : k / 8 + 4 < keyOf.length := by show k / 8 + 4 < 40; omega
    unfold kb; rw [List.getElem?_eq_getElem this]; rfl
  refine ⟨fun vs h' => match vs with
    | [.int _ w, .int _ hs, .int _ i] => ∃ k : Nat, i = k ∧ k ≤ 96 ∧ w = winI k ∧ hs = hashI t k ∧ h' = h
    | _ => False, fun vs _ => match vs with
    | [_, _, .int _ i] => 96 - i.toNat
    | _ => 0, 96, ?_, ?_⟩
  · rw [kl, tl]
    have c1 : ltI 36 12 = false := rfl
    rw [c1]
    simp only [bne_self_eq_false, cond_false]
    obtain ⟨b, hb, hb2⟩ := tb 0 (by omega)
    have e8 : ((0 : Int) == IntKind.i64.wrap (8 * 12)) = false := rfl
    refine ⟨by omega, 109, rfl, by omega, by omega, 90, rfl, by omega, by omega, 109, rfl, by omega, by omega, 90, rfl, ?_⟩
    rw [e8]
    refine ⟨by omega, by decide, b, hb, by omega, by decide, ?_⟩
    have w1 : winI 1 = nextW w0 (kb 0) 0 := rfl
    have h1 : hashI t 1 = bif bitV b 0 == 1 then xorI 0 w0 else 0 := by show (bif bitV ((t[0 / 8]?).getD 0) 0 == 1 then _ else _) = _; rw [hb2]; rfl
    have c2 : ltI (IntKind.i64.wrap (IntKind.i64.wrap (Int.tdiv 0 8) + 4)) 40 = true := rfl
    rw [c2]
    have hi : ∀ x : Int, bif bitV b 0 == 1 then True else True := fun _ => by cases bitV b 0 == 1 <;> trivial
    cases hc : bitV b 0 == 1 with
    | true =>
      have hc' : (bits BinOp.and IntKind.u8 ((↑b.toNat : Int).fdiv (2 ^ min (IntKind.i64.wrap (7 - Int.tmod 0 8)).toNat IntKind.u8.bits)) 1 == 1) = true := hc
      rw [hc']
      rw [hc] at h1
      exact ⟨by omega, by omega, by decide, kb 0, kk 0 (by omega), by omega, by decide, by trivial, ⟨1, rfl, by omega, w1.symm, h1.symm, by trivial⟩, by decide⟩
    | false =>
      have hc' : (bits BinOp.and IntKind.u8 ((↑b.toNat : Int).fdiv (2 ^ min (IntKind.i64.wrap (7 - Int.tmod 0 8)).toNat IntKind.u8.bits)) 1 == 1) = false := hc
      rw [hc']
      rw [hc] at h1
      exact ⟨by omega, by omega, by decide, kb 0, kk 0 (by omega), by omega, by decide, by trivial, ⟨1, rfl, by omega, w1.symm, h1.symm, by trivial⟩, by decide⟩
  rintro bs w hs i h1 ⟨k, rfl, hk, rfl, rfl, rfl⟩
  rw [kl, tl]
  have e96 : IntKind.i64.wrap (8 * 12) = 96 := rfl
  rw [e96]
  by_cases h96 : k = 96
  · subst h96
    exact hK _ _ ⟨rfl, rfl⟩
  have c0 : ((k : Int) == 96) = false := by rw [beq_eq_false_iff_ne]; omega
  rw [c0]
  have hk' : k < 96 := by omega
  obtain ⟨b, hb, hb2⟩ := tb k hk'
  have hdv : IntKind.i64.wrap ((k : Int).tdiv 8) = ((k / 8 : Nat) : Int) := by
    rw [wr (by rw [Int.tdiv_eq_ediv_of_nonneg (by omega)]; omega) (by rw [Int.tdiv_eq_ediv_of_nonneg (by omega)]; omega), Int.tdiv_eq_ediv_of_nonneg (by omega)]; omega
  have h4 : IntKind.i64.wrap (((k / 8 : Nat) : Int) + 4) = ((k / 8 + 4 : Nat) : Int) := by rw [wr (by omega) (by omega)]; rfl
  have hmd : ¬ IntKind.i64.wrap (7 - (k : Int).tmod 8) < 0 := by
    rw [Int.tmod_eq_emod_of_nonneg (by omega), wr (by omega) (by omega)]; omega
  have hwk : IntKind.i64.wrap ((k : Int) + 1) = ((k + 1 : Nat) : Int) := by rw [wr (by omega) (by omega)]; rfl
  rw [hdv, h4, hwk]
  have c2 : ltI ((k / 8 + 4 : Nat) : Int) 40 = true := by rw [ltI_eq, decide_eq_true_eq]; omega
  rw [c2]
  have t1 : ((k / 8 : Nat) : Int).toNat = k / 8 := by omega
  have t2 : ((k / 8 + 4 : Nat) : Int).toNat = k / 8 + 4 := by omega
  have w1 : winI (k + 1) = nextW (winI k) (kb k) k := rfl
  have hh : hashI t (k + 1) = bif bitV b k == 1 then xorI (hashI t k) (winI k) else hashI t k := by show (bif bitV ((t[k / 8]?).getD 0) k == 1 then _ else _) = _; rw [hb2]
  have ms : 96 - (((k + 1 : Nat) : Int)).toNat < 96 - ((k : Int)).toNat := by omega
  refine ⟨by omega, by omega, b, by rw [t1]; exact hb, by omega, hmd, ?_⟩
  cases hc : bitV b k == 1 with
  | true =>
    have hc' : (bits BinOp.and IntKind.u8 ((↑b.toNat : Int).fdiv (2 ^ min (IntKind.i64.wrap (7 - (k : Int).tmod 8)).toNat IntKind.u8.bits)) 1 == 1) = true := hc
    rw [hc']
    rw [hc] at hh
    exact ⟨by omega, by omega, by omega, kb k, by rw [t2]; exact kk k hk', by omega, hmd, by trivial, ⟨k + 1, rfl, by omega, w1.symm, hh.symm, rfl⟩, ms⟩
  | false =>
    have hc' : (bits BinOp.and IntKind.u8 ((↑b.toNat : Int).fdiv (2 ^ min (IntKind.i64.wrap (7 - (k : Int).tmod 8)).toNat IntKind.u8.bits)) 1 == 1) = false := hc
    rw [hc']
    rw [hc] at hh
    exact ⟨by omega, by omega, by omega, kb k, by rw [t2]; exact kk k hk', by omega, hmd, by trivial, ⟨k + 1, rfl, by omega, w1.symm, hh.symm, rfl⟩, ms⟩

theorem bits_range (op : BinOp) (a b : Int) : 0 ≤ bits op .u32 a b ∧ bits op .u32 a b < 4294967296 := by
  simp only [bits]
  simp only [IntKind.wrap, IntKind.bits, IntKind.signed]
  constructor
  · exact Int.emod_nonneg _ (by decide)
  · exact Int.emod_lt_of_pos _ (by decide)

theorem hash_range (t : List UInt8) : ∀ k, 0 ≤ hashI t k ∧ hashI t k < 4294967296
  | 0 => by simp [hashI]
  | k + 1 => by
    have e : hashI t (k + 1) = bif bitV ((t[k / 8]?).getD 0) k == 1 then xorI (hashI t k) (winI k) else hashI t k := rfl
    rw [e]
    generalize (bitV ((t[k / 8]?).getD 0) k == 1) = c
    cases c with
    | true => rw [cond_true]; unfold xorI; exact bits_range _ _ _
    | false => exact hash_range t k

/-! ### Shard -/

structure Pr where
  a : Int
  b : Int
  c : Int
  d : Int
deriving DecidableEq

def Pr.v (p : Pr) : V := .agg [.int .u32 p.a, .int .u16 p.b, .int .u32 p.c, .int .u16 p.d]
def Pr.text (p : Pr) : List UInt8 := textOf p.a p.b p.c p.d
def shard (p : Pr) : Nat := (hashI p.text 96 % 8).toNat

theorem shard_lt (p : Pr) : shard p < 8 := by unfold shard; omega

theorem pair_spec {h : Hp} (p : Pr) : XCalls Try.prog 32 [.str keyOf, p.v] h fun v _ => v = .tup [.int .u32 (hashI p.text 96), .int .i64 0] := by
  refine XCalls.cps fun K hK => ?_
  apply x32; unfold X32
  rintro h1 rfl
  have g1 : (h.alloc (.row [.int .u32 p.a, .int .u16 p.b, .int .u32 p.c, .int .u16 p.d] 1 false)).get h.next = some (.row [.int .u32 p.a, .int .u16 p.b, .int .u32 p.c, .int .u16 p.d] 1 false) := Hp.get_alloc_self
  refine ⟨p.a, p.b, p.c, p.d, by simp (disch := (first | omega | (simp only [Hp.alloc_next, Hp.set_next] <;> omega) | (simp (disch := (first | omega | (simp only [Hp.alloc_next, Hp.set_next] <;> omega) | fail)) only [Hp.get_set_self, Hp.get_set_ne, Hp.get_alloc_self, Hp.get_alloc_ne, Hp.get_alloc_at, Hp.get_set_at, Hp.set_next, Hp.alloc_next, g1]; done) | fail)) only [Hp.st, Hp.ld, Hp.lda, splice, ble_eq', if_true, if_false, ite_true, ite_false, cond_true, cond_false, decide_true, decide_false, List.length_cons, List.length_nil, List.take_zero, List.take_succ_cons, List.nil_append, List.cons_append, List.append_nil, List.drop_succ_cons, List.drop_zero, List.drop_nil, List.getElem?_cons_succ, List.getElem?_cons_zero, Nat.reduceAdd, Nat.reduceLeDiff, Nat.reduceEqDiff, Nat.zero_add, Nat.add_zero, Nat.le_refl, Nat.zero_le, Nat.succ_ne_self, Nat.mul_one, Int.toNat_natCast, Option.some.injEq, Option.isNone_some, Option.isNone_none, V.int.injEq, V.str.injEq, V.bool.injEq, V.ptr.injEq, V.slc.injEq, V.map.injEq, V.agg.injEq, V.tup.injEq, List.cons.injEq, Prod.mk.injEq, onS, true_and, and_true, and_assoc, exists_and_left, exists_eq_left', forall_eq, heq_eq_eq, reduceCtorEq, Bool.not_true, Bool.not_false, eq_self, not_false_eq_true, Nat.left_eq_add, Nat.add_eq_left, Nat.add_left_cancel_iff, Nat.add_right_cancel_iff, Nat.reduceEqDiff, Nat.one_ne_zero, Hp.get_set_self, Hp.get_set_ne, Hp.get_alloc_self, Hp.get_alloc_ne, Hp.get_alloc_at, Hp.get_set_at, Hp.set_next, Hp.alloc_next, Option.some_ne_none, V.tup.injEq, Option.isSome_some, Option.isSome_none, exists_eq_left, exists_eq, Nat.mul_zero, g1], ?_⟩
  refine (text_aside p.a p.b p.c p.d).mono ?_
  rintro _ h2 ⟨rfl, rfl⟩
  refine ⟨_, rfl, ?_⟩
  refine (hash_spec (by simp [textOf, ipB, ptB])).mono ?_
  rintro _ h3 ⟨rfl, rfl⟩
  exact ⟨_, _, rfl, hK _ _ rfl⟩

theorem pair_aside {h : Hp} (p : Pr) : XCalls Try.prog 32 [.str keyOf, p.v] h fun v h' => v = .tup [.int .u32 (hashI p.text 96), .int .i64 0] ∧ h' = h :=
  XCalls.aside rfl (fun v hv => by subst hv; rfl) (pair_spec p)

theorem shard_spec {h : Hp} (p : Pr) : XCalls Try.prog 15 [p.v] h fun v h' => v = .int .i64 (shard p) ∧ h' = h := by
  refine XCalls.aside rfl (fun v hv => by subst hv; rfl) ?_
  refine XCalls.cps fun K hK => ?_
  apply x15; unfold X15
  rintro h1 rfl
  have g1 : (h0.alloc (.row [.int .u32 p.a, .int .u16 p.b, .int .u32 p.c, .int .u16 p.d] 1 false)).get h0.next = some (.row [.int .u32 p.a, .int .u16 p.b, .int .u32 p.c, .int .u16 p.d] 1 false) := Hp.get_alloc_self
  refine ⟨p.a, p.b, p.c, p.d, by simp (disch := (first | omega | (simp only [Hp.alloc_next, Hp.set_next] <;> omega) | (simp (disch := (first | omega | (simp only [Hp.alloc_next, Hp.set_next] <;> omega) | fail)) only [Hp.get_set_self, Hp.get_set_ne, Hp.get_alloc_self, Hp.get_alloc_ne, Hp.get_alloc_at, Hp.get_set_at, Hp.set_next, Hp.alloc_next, g1]; done) | fail)) only [Hp.st, Hp.ld, Hp.lda, splice, ble_eq', if_true, if_false, ite_true, ite_false, cond_true, cond_false, decide_true, decide_false, List.length_cons, List.length_nil, List.take_zero, List.take_succ_cons, List.nil_append, List.cons_append, List.append_nil, List.drop_succ_cons, List.drop_zero, List.drop_nil, List.getElem?_cons_succ, List.getElem?_cons_zero, Nat.reduceAdd, Nat.reduceLeDiff, Nat.reduceEqDiff, Nat.zero_add, Nat.add_zero, Nat.le_refl, Nat.zero_le, Nat.succ_ne_self, Nat.mul_one, Int.toNat_natCast, Option.some.injEq, Option.isNone_some, Option.isNone_none, V.int.injEq, V.str.injEq, V.bool.injEq, V.ptr.injEq, V.slc.injEq, V.map.injEq, V.agg.injEq, V.tup.injEq, List.cons.injEq, Prod.mk.injEq, onS, true_and, and_true, and_assoc, exists_and_left, exists_eq_left', forall_eq, heq_eq_eq, reduceCtorEq, Bool.not_true, Bool.not_false, eq_self, not_false_eq_true, Nat.left_eq_add, Nat.add_eq_left, Nat.add_left_cancel_iff, Nat.add_right_cancel_iff, Nat.reduceEqDiff, Nat.one_ne_zero, Hp.get_set_self, Hp.get_set_ne, Hp.get_alloc_self, Hp.get_alloc_ne, Hp.get_alloc_at, Hp.get_set_at, Hp.set_next, Hp.alloc_next, Option.some_ne_none, V.tup.injEq, Option.isSome_some, Option.isSome_none, exists_eq_left, exists_eq, Nat.mul_zero, g1], ?_⟩
  refine (repeat_spec).mono ?_
  rintro _ h2 ⟨rfl, rfl⟩
  refine ⟨_, rfl, ⟨p.a, p.b, p.c, p.d, by simp (disch := (first | omega | (simp only [Hp.alloc_next, Hp.set_next] <;> omega) | (simp (disch := (first | omega | (simp only [Hp.alloc_next, Hp.set_next] <;> omega) | fail)) only [Hp.get_set_self, Hp.get_set_ne, Hp.get_alloc_self, Hp.get_alloc_ne, Hp.get_alloc_at, Hp.get_set_at, Hp.set_next, Hp.alloc_next, g1]; done) | fail)) only [Hp.st, Hp.ld, Hp.lda, splice, ble_eq', if_true, if_false, ite_true, ite_false, cond_true, cond_false, decide_true, decide_false, List.length_cons, List.length_nil, List.take_zero, List.take_succ_cons, List.nil_append, List.cons_append, List.append_nil, List.drop_succ_cons, List.drop_zero, List.drop_nil, List.getElem?_cons_succ, List.getElem?_cons_zero, Nat.reduceAdd, Nat.reduceLeDiff, Nat.reduceEqDiff, Nat.zero_add, Nat.add_zero, Nat.le_refl, Nat.zero_le, Nat.succ_ne_self, Nat.mul_one, Int.toNat_natCast, Option.some.injEq, Option.isNone_some, Option.isNone_none, V.int.injEq, V.str.injEq, V.bool.injEq, V.ptr.injEq, V.slc.injEq, V.map.injEq, V.agg.injEq, V.tup.injEq, List.cons.injEq, Prod.mk.injEq, onS, true_and, and_true, and_assoc, exists_and_left, exists_eq_left', forall_eq, heq_eq_eq, reduceCtorEq, Bool.not_true, Bool.not_false, eq_self, not_false_eq_true, Nat.left_eq_add, Nat.add_eq_left, Nat.add_left_cancel_iff, Nat.add_right_cancel_iff, Nat.reduceEqDiff, Nat.one_ne_zero, Hp.get_set_self, Hp.get_set_ne, Hp.get_alloc_self, Hp.get_alloc_ne, Hp.get_alloc_at, Hp.get_set_at, Hp.set_next, Hp.alloc_next, Option.some_ne_none, V.tup.injEq, Option.isSome_some, Option.isSome_none, exists_eq_left, exists_eq, Nat.mul_zero, g1], rfl⟩, ?_⟩
  refine (pair_aside p).mono ?_
  rintro _ h3 ⟨rfl, rfl⟩
  refine ⟨_, _, rfl, by omega, hK _ _ ?_⟩
  have hr := hash_range p.text 96
  rw [Int.tmod_eq_emod_of_nonneg hr.1, wr (by omega) (by omega)]
  unfold shard; congr 1; omega

end Go.Vex.Tbl
