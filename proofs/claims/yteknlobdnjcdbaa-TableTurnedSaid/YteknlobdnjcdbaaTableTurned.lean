/-
  TableTurned of layer 23: whatever the pair, the law returns true and leaves the input as it was. No condition.
-/
import Derived.Test.YteknlobdnjcdbaaVexFF
import Derived.Test.YteknlobdnjcdbaaTab23
import Derived.Test.YteknlobdnjcdbaaXa23
import Derived.Test.YteknlobdnjcdbaaCa23
import Derived.Test.YteknlobdnjcdbaaCb23
import Derived.Test.YteknlobdnjcdbaaCc23
import Derived.Test.YteknlobdnjcdbaaCd23
import Derived.Test.YteknlobdnjcdbaaRows
import Derived.WalkKit
import Derived.ProofKit
import Derived.OpenShut
import Derived.KernelRfl
set_option linter.unusedVariables false
set_option linter.unusedSimpArgs false
namespace Go.Vex.TableTurned
open Go.Proofs Go.Vex.Tbl

set_option maxRecDepth 100000 in
theorem win16 : winI 16 = winI 0 := by kernel_rfl

theorem key_turn (j : Nat) (h : j + 2 < 40) : (Tbl.keyOf[j + 2]?).getD 0 = (Tbl.keyOf[j]?).getD 0 := by
  match j, h with
  | 0, _ => rfl | 1, _ => rfl | 2, _ => rfl | 3, _ => rfl | 4, _ => rfl | 5, _ => rfl | 6, _ => rfl | 7, _ => rfl | 8, _ => rfl | 9, _ => rfl
  | 10, _ => rfl | 11, _ => rfl | 12, _ => rfl | 13, _ => rfl | 14, _ => rfl | 15, _ => rfl | 16, _ => rfl | 17, _ => rfl | 18, _ => rfl | 19, _ => rfl
  | 20, _ => rfl | 21, _ => rfl | 22, _ => rfl | 23, _ => rfl | 24, _ => rfl | 25, _ => rfl | 26, _ => rfl | 27, _ => rfl | 28, _ => rfl | 29, _ => rfl
  | 30, _ => rfl | 31, _ => rfl | 32, _ => rfl | 33, _ => rfl | 34, _ => rfl | 35, _ => rfl | 36, _ => rfl | 37, _ => rfl
  | j + 38, h => exact absurd h (by omega)

theorem shV_turn (k : Nat) : shV (k + 16) = shV k := by
  unfold shV
  have : ((k + 16 : Nat) : Int).tmod 8 = (k : Int).tmod 8 := by
    rw [Int.tmod_eq_emod_of_nonneg (by omega), Int.tmod_eq_emod_of_nonneg (by omega)]; omega
  rw [this]

theorem kb_turn (k : Nat) (h : k < 200) : kb (k + 16) = kb k := by
  unfold kb
  have : (k + 16) / 8 + 4 = (k / 8 + 4) + 2 := by omega
  rw [this]
  exact key_turn _ (by omega)

theorem win_turn : ∀ k, k < 200 → winI (k + 16) = winI k
  | 0, _ => win16
  | k + 1, h => by
    have e1 : winI (k + 1 + 16) = nextW (winI (k + 16)) (kb (k + 16)) (k + 16) := rfl
    have e2 : winI (k + 1) = nextW (winI k) (kb k) k := rfl
    rw [e1, e2, win_turn k (by omega), kb_turn k (by omega)]
    unfold nextW
    rw [shV_turn]

theorem win_mod : ∀ (n k : Nat), k < 16 → 16 * n ≤ 96 → winI (k + 16 * n) = winI k
  | 0, _, _, _ => rfl
  | n + 1, k, h, hn => by
    have : k + 16 * (n + 1) = (k + 16 * n) + 16 := by omega
    rw [this, win_turn _ (by omega), win_mod n k h (by omega)]

theorem win_eq {i j : Nat} (h : i % 16 = j % 16) (hi : i < 96) (hj : j < 96) : winI i = winI j := by
  have e1 : i = i % 16 + 16 * (i / 16) := by omega
  have e2 : j = j % 16 + 16 * (j / 16) := by omega
  rw [e1, e2, win_mod _ _ (by omega) (by omega), win_mod _ _ (by omega) (by omega), h]

theorem bitV_turn (b : UInt8) {i j : Nat} (h : i % 8 = j % 8) : bitV b i = bitV b j := by
  unfold bitV
  have : shV i = shV j := by
    unfold shV
    have : (i : Int).tmod 8 = (j : Int).tmod 8 := by
      rw [Int.tmod_eq_emod_of_nonneg (by omega), Int.tmod_eq_emod_of_nonneg (by omega)]; omega
    rw [this]
  rw [this]

theorem ofInt_wrap (X : BitVec 32) : BitVec.ofInt 32 (IntKind.u32.wrap (X.toNat : Int)) = X := by
  apply BitVec.eq_of_toNat_eq
  rw [BitVec.toNat_ofInt]
  have := X.isLt
  simp only [IntKind.wrap, IntKind.bits, IntKind.signed]
  generalize X.toNat = n at *
  simp
  omega

theorem ofInt_bits (a b : Int) : BitVec.ofInt 32 (xorI a b) = BitVec.ofInt 32 a ^^^ BitVec.ofInt 32 b :=
  ofInt_wrap (BitVec.ofInt 32 a ^^^ BitVec.ofInt 32 b)

theorem xor_right (a b c : Int) : xorI (xorI a b) c = xorI (xorI a c) b := by
  have e : ∀ x y : Int, xorI x y = IntKind.u32.wrap ((BitVec.ofInt 32 x ^^^ BitVec.ofInt 32 y).toNat : Int) := fun _ _ => rfl
  rw [e (xorI a b) c, e (xorI a c) b, ofInt_bits, ofInt_bits, BitVec.xor_assoc, BitVec.xor_assoc, BitVec.xor_comm (BitVec.ofInt 32 b)]

/-- one bit's share -/
def share (t : List UInt8) (h : Int) (i : Nat) : Int := bif bitV ((t[i / 8]?).getD 0) i == 1 then xorI h (winI i) else h

theorem hash_fold (t : List UInt8) : ∀ n, hashI t n = (List.range n).foldl (share t) 0
  | 0 => rfl
  | n + 1 => by
    rw [List.range_succ, List.foldl_append, ← hash_fold t n]; rfl

/-- whose bit comes to place i once the pair is turned -/
def turn (i : Nat) : Nat := if i < 32 then i + 32 else if i < 64 then i - 32 else if i < 80 then i + 16 else i - 16

theorem turn_perm : ((List.range 96).map turn).Perm (List.range 96) := by decide

theorem text_turn (p : Pr) : ∀ i, i < 96 → ((Pr.text ⟨p.c, p.d, p.a, p.b⟩)[i / 8]?).getD 0 = (p.text[turn i / 8]?).getD 0 := fun i hi => by
  have key : ∀ j, j < 12 → ((Pr.text ⟨p.c, p.d, p.a, p.b⟩)[j]?).getD 0 = (p.text[turn (8 * j) / 8]?).getD 0 := fun j hj => by
    match j, hj with
    | 0, _ => rfl | 1, _ => rfl | 2, _ => rfl | 3, _ => rfl | 4, _ => rfl | 5, _ => rfl | 6, _ => rfl | 7, _ => rfl | 8, _ => rfl | 9, _ => rfl | 10, _ => rfl | 11, _ => rfl
    | j + 12, h => exact absurd h (by omega)
  rw [key (i / 8) (by omega)]
  have : turn (8 * (i / 8)) / 8 = turn i / 8 := by unfold turn; (repeat' split) <;> omega
  rw [this]

theorem hash_turn (p : Pr) : hashI (Pr.text ⟨p.c, p.d, p.a, p.b⟩) 96 = hashI p.text 96 := by
  rw [hash_fold, hash_fold]
  have e1 : (List.range 96).foldl (share (Pr.text ⟨p.c, p.d, p.a, p.b⟩)) 0 = ((List.range 96).map turn).foldl (share p.text) 0 := by
    rw [List.foldl_map]
    have : ∀ (l : List Nat) (h : Int), (∀ i ∈ l, i < 96) → l.foldl (share (Pr.text ⟨p.c, p.d, p.a, p.b⟩)) h = l.foldl (fun x y => share p.text x (turn y)) h := fun l => by
      induction l with
      | nil => intro h _; rfl
      | cons i l ih =>
        intro h hl
        have hi := hl i (by simp)
        have e : share (Pr.text ⟨p.c, p.d, p.a, p.b⟩) h i = share p.text h (turn i) := by
          unfold share
          have ht : turn i < 96 := by unfold turn; (repeat' split) <;> omega
          have h16 : i % 16 = turn i % 16 := by unfold turn; (repeat' split) <;> omega
          rw [text_turn p i hi, win_eq h16 hi ht, bitV_turn _ (show i % 8 = turn i % 8 by omega)]
        simp only [List.foldl_cons]
        rw [e]
        exact ih _ fun j hj => hl j (by simp [hj])
    exact this _ _ fun i hi => List.mem_range.1 hi
  rw [e1]
  refine List.Perm.foldl_eq' turn_perm (fun x _ y _ z => ?_) 0
  unfold share
  cases bitV ((p.text[x / 8]?).getD 0) x == 1 <;> cases bitV ((p.text[y / 8]?).getD 0) y == 1 <;> simp only [cond_true, cond_false]
  exact xor_right _ _ _

theorem shard_turn (p : Pr) : shard ⟨p.c, p.d, p.a, p.b⟩ = shard p := by unfold shard; rw [hash_turn]

theorem law_calls (a : Int) (wa : IntKind.u32.min ≤ a ∧ a ≤ IntKind.u32.max) (b : Int) (wb : IntKind.u16.min ≤ b ∧ b ≤ IntKind.u16.max) (c : Int) (wc : IntKind.u32.min ≤ c ∧ c ≤ IntKind.u32.max) (d : Int) (wd : IntKind.u16.min ≤ d ∧ d ≤ IntKind.u16.max) {h : Hp} : XCalls Try.prog 4 [.agg [.int .u32 a, .int .u16 b, .int .u32 c, .int .u16 d]] h fun v _ => v = .bool true := by
  refine XCalls.cps fun K hK => ?_
  apply x4; unfold X4
  rintro h1 rfl
  have g1 : (h.alloc (.row [.int .u32 a, .int .u16 b, .int .u32 c, .int .u16 d] 1 false)).get h.next = some (.row [.int .u32 a, .int .u16 b, .int .u32 c, .int .u16 d] 1 false) := Hp.get_alloc_self
  refine ⟨a, b, c, d, by simp (disch := (first | omega | (simp only [Hp.alloc_next, Hp.set_next] <;> omega) | (simp (disch := (first | omega | (simp only [Hp.alloc_next, Hp.set_next] <;> omega) | fail)) only [Hp.get_set_self, Hp.get_set_ne, Hp.get_alloc_self, Hp.get_alloc_ne, Hp.get_alloc_at, Hp.get_set_at, Hp.set_next, Hp.alloc_next, g1]; done) | fail)) only [Hp.st, Hp.ld, Hp.lda, splice, ble_eq', if_true, if_false, ite_true, ite_false, cond_true, cond_false, decide_true, decide_false, List.length_cons, List.length_nil, List.take_zero, List.take_succ_cons, List.nil_append, List.cons_append, List.append_nil, List.drop_succ_cons, List.drop_zero, List.drop_nil, List.getElem?_cons_succ, List.getElem?_cons_zero, Nat.reduceAdd, Nat.reduceLeDiff, Nat.reduceEqDiff, Nat.zero_add, Nat.add_zero, Nat.le_refl, Nat.zero_le, Nat.succ_ne_self, Nat.mul_one, Int.toNat_natCast, Option.some.injEq, Option.isNone_some, Option.isNone_none, V.int.injEq, V.str.injEq, V.bool.injEq, V.ptr.injEq, V.slc.injEq, V.map.injEq, V.agg.injEq, V.tup.injEq, List.cons.injEq, Prod.mk.injEq, onS, true_and, and_true, and_assoc, exists_and_left, exists_eq_left', forall_eq, heq_eq_eq, reduceCtorEq, Bool.not_true, Bool.not_false, eq_self, not_false_eq_true, Nat.left_eq_add, Nat.add_eq_left, Nat.add_left_cancel_iff, Nat.add_right_cancel_iff, Nat.reduceEqDiff, Nat.one_ne_zero, Hp.get_set_self, Hp.get_set_ne, Hp.get_alloc_self, Hp.get_alloc_ne, Hp.get_alloc_at, Hp.get_set_at, Hp.set_next, Hp.alloc_next, Option.some_ne_none, V.tup.injEq, Option.isSome_some, Option.isSome_none, exists_eq_left, exists_eq, Nat.mul_zero, g1], ?_⟩
  refine (shard_spec ⟨a, b, c, d⟩).mono ?_
  rintro _ h2 ⟨rfl, rfl⟩
  refine ⟨_, rfl, ?_⟩
  have hs := shard_lt ⟨a, b, c, d⟩
  have c0 : ltI (shard ⟨a, b, c, d⟩ : Int) 0 = false := by rw [ltI_eq, decide_eq_false_iff_not]; omega
  have c1 : ltI (shard ⟨a, b, c, d⟩ : Int) 8 = true := by rw [ltI_eq, decide_eq_true_eq]; omega
  rw [c0, c1]
  refine ⟨c, d, by simp (disch := (first | omega | (simp only [Hp.alloc_next, Hp.set_next] <;> omega) | (simp (disch := (first | omega | (simp only [Hp.alloc_next, Hp.set_next] <;> omega) | fail)) only [Hp.get_set_self, Hp.get_set_ne, Hp.get_alloc_self, Hp.get_alloc_ne, Hp.get_alloc_at, Hp.get_set_at, Hp.set_next, Hp.alloc_next, g1]; done) | fail)) only [Hp.st, Hp.ld, Hp.lda, splice, ble_eq', if_true, if_false, ite_true, ite_false, cond_true, cond_false, decide_true, decide_false, List.length_cons, List.length_nil, List.take_zero, List.take_succ_cons, List.nil_append, List.cons_append, List.append_nil, List.drop_succ_cons, List.drop_zero, List.drop_nil, List.getElem?_cons_succ, List.getElem?_cons_zero, Nat.reduceAdd, Nat.reduceLeDiff, Nat.reduceEqDiff, Nat.zero_add, Nat.add_zero, Nat.le_refl, Nat.zero_le, Nat.succ_ne_self, Nat.mul_one, Int.toNat_natCast, Option.some.injEq, Option.isNone_some, Option.isNone_none, V.int.injEq, V.str.injEq, V.bool.injEq, V.ptr.injEq, V.slc.injEq, V.map.injEq, V.agg.injEq, V.tup.injEq, List.cons.injEq, Prod.mk.injEq, onS, true_and, and_true, and_assoc, exists_and_left, exists_eq_left', forall_eq, heq_eq_eq, reduceCtorEq, Bool.not_true, Bool.not_false, eq_self, not_false_eq_true, Nat.left_eq_add, Nat.add_eq_left, Nat.add_left_cancel_iff, Nat.add_right_cancel_iff, Nat.reduceEqDiff, Nat.one_ne_zero, Hp.get_set_self, Hp.get_set_ne, Hp.get_alloc_self, Hp.get_alloc_ne, Hp.get_alloc_at, Hp.get_set_at, Hp.set_next, Hp.alloc_next, Option.some_ne_none, V.tup.injEq, Option.isSome_some, Option.isSome_none, exists_eq_left, exists_eq, Nat.mul_zero, g1], a, b, by simp (disch := (first | omega | (simp only [Hp.alloc_next, Hp.set_next] <;> omega) | (simp (disch := (first | omega | (simp only [Hp.alloc_next, Hp.set_next] <;> omega) | fail)) only [Hp.get_set_self, Hp.get_set_ne, Hp.get_alloc_self, Hp.get_alloc_ne, Hp.get_alloc_at, Hp.get_set_at, Hp.set_next, Hp.alloc_next, g1]; done) | fail)) only [Hp.st, Hp.ld, Hp.lda, splice, ble_eq', if_true, if_false, ite_true, ite_false, cond_true, cond_false, decide_true, decide_false, List.length_cons, List.length_nil, List.take_zero, List.take_succ_cons, List.nil_append, List.cons_append, List.append_nil, List.drop_succ_cons, List.drop_zero, List.drop_nil, List.getElem?_cons_succ, List.getElem?_cons_zero, Nat.reduceAdd, Nat.reduceLeDiff, Nat.reduceEqDiff, Nat.zero_add, Nat.add_zero, Nat.le_refl, Nat.zero_le, Nat.succ_ne_self, Nat.mul_one, Int.toNat_natCast, Option.some.injEq, Option.isNone_some, Option.isNone_none, V.int.injEq, V.str.injEq, V.bool.injEq, V.ptr.injEq, V.slc.injEq, V.map.injEq, V.agg.injEq, V.tup.injEq, List.cons.injEq, Prod.mk.injEq, onS, true_and, and_true, and_assoc, exists_and_left, exists_eq_left', forall_eq, heq_eq_eq, reduceCtorEq, Bool.not_true, Bool.not_false, eq_self, not_false_eq_true, Nat.left_eq_add, Nat.add_eq_left, Nat.add_left_cancel_iff, Nat.add_right_cancel_iff, Nat.reduceEqDiff, Nat.one_ne_zero, Hp.get_set_self, Hp.get_set_ne, Hp.get_alloc_self, Hp.get_alloc_ne, Hp.get_alloc_at, Hp.get_set_at, Hp.set_next, Hp.alloc_next, Option.some_ne_none, V.tup.injEq, Option.isSome_some, Option.isSome_none, exists_eq_left, exists_eq, Nat.mul_zero, g1], ?_⟩
  refine (shard_spec ⟨c, d, a, b⟩).mono ?_
  rintro _ h3 ⟨rfl, rfl⟩
  refine ⟨_, rfl, ?_⟩
  have e := shard_turn ⟨a, b, c, d⟩
  rw [e, beq_self_eq_true]
  exact works_spec fun h' => ⟨_, rfl, hK _ _ rfl⟩
end Go.Vex.TableTurned

namespace Go.Proofs.Yteknlobdnjcdbaa.tableTurned
open Go.ChangeShapes Go.WideShapes Go.ChangeAt Go.RowKit Go.Vex Go.Vex.TableTurned
open Go.ChangeMaps (open_string shut_string)

theorem own : ownKnob Try.prog.godebug = none := by kernel_rfl

set_option maxRecDepth 100000 in
theorem lifted (os : Os) (started : os.Started) (H : Type) (enc : TypeId × Value → H) :
    ReturnsInHanded {} Try.checked os 4 .any (Rows.tableTurnedSpec.pre6 enc Try.prog Try.f4 Rows.tableTurnedRow.domain false) (Rows.tableTurnedSpec.post enc Try.prog Try.f4 false true false false) := by
  refine returnsInHanded_of_change_sized (C := Try.checked) own started (by kernel_rfl) Try.func4
    (ChangeSpec.witness6 (enc := enc) (C := Try.checked) false ⟨#[], #[.agg #[.int .u32 0, .int .u16 0, .int .u32 0, .int .u16 0]], []⟩ 8 (by kernel_rfl) (by kernel_rfl) (by kernel_rfl) (by kernel_rfl)) ?_
  intro W base args ds gs before hval0 hW hcnd hsz _
  have hval : ∀ (j : Nat) t v, Try.f4.params[j]? = some t → args[j]? = some v → Value.okWide Try.prog W .any base t v := hval0
  have hW' := hW
  obtain ⟨p, q, hA0, hV, rfl, hfz, hnd⟩ := hW
  have hA : DataW.TrodAll enc Try.prog W 0 (fun _ => true) true Try.f4.params.toList args.toList ds p := hA0
  rw [Try.params4] at hA hval hsz
  obtain ⟨v0, vs0, d0, ds0, p0, q0, hargs, rfl, rfl, h0, r0⟩ := trodAll_cons hA
  obtain ⟨rfl, rfl, rfl⟩ := trodAll_nil r0
  obtain rfl : args = #[v0] := by cases args; simp_all
  obtain ⟨rfl, rfl⟩ := trodVars_none hV
  obtain ⟨cs0, rfl, hsz0, hc0⟩ := open_flat Try.underlying33 (ts := [28, 29, 28, 29]) (by kernel_rfl) (by kernel_rfl) (hval 0 33 v0 rfl rfl)
  obtain ⟨x0_0, hx0_0, ok0_0⟩ := hc0 0 28 rfl
  obtain ⟨a0_0, rfl, b0_0⟩ := cell_intB Try.underlying28 ok0_0
  obtain ⟨x0_1, hx0_1, ok0_1⟩ := hc0 1 29 rfl
  obtain ⟨a0_1, rfl, b0_1⟩ := cell_intB Try.underlying29 ok0_1
  obtain ⟨x0_2, hx0_2, ok0_2⟩ := hc0 2 28 rfl
  obtain ⟨a0_2, rfl, b0_2⟩ := cell_intB Try.underlying28 ok0_2
  obtain ⟨x0_3, hx0_3, ok0_3⟩ := hc0 3 29 rfl
  obtain ⟨a0_3, rfl, b0_3⟩ := cell_intB Try.underlying29 ok0_3
  obtain rfl := arr_of (l := [.int .u32 a0_0, .int .u16 a0_1, .int .u32 a0_2, .int .u16 a0_3]) hsz0 (fun j x hj => by
    match j, hj with
    | 0, hj => cases hj; exact hx0_0
    | 1, hj => cases hj; exact hx0_1
    | 2, hj => cases hj; exact hx0_2
    | 3, hj => cases hj; exact hx0_3
    | j + 4, hj => simp at hj)
  refine (XCalls.true' (Sat.none W fun _ => ⟨0, 0, 0, 0⟩) (vs := [.agg [.int .u32 a0_0, .int .u16 a0_1, .int .u32 a0_2, .int .u16 a0_3]]) ⟨_, _, rfl, ⟨_, rfl, ⟨_, _, rfl, rfl, ⟨_, _, rfl, rfl, ⟨_, _, rfl, rfl, ⟨_, _, rfl, rfl, rfl⟩⟩⟩⟩⟩, rfl⟩ (law_calls a0_0 b0_0 a0_1 b0_1 a0_2 b0_2 a0_3 b0_3)).mono fun e W' ⟨he, hb⟩ => ?_
  subst he
  exact ⟨_, rfl, post_true (by kernel_rfl) hW' hb rfl (fun gs hg => by subst hg; rfl) (tb := 4) rfl Try.underlying4 (by decide +kernel)⟩

theorem over : Rows.tableTurnedRow.holds Try.pinned (OpenSpec.ofChange Rows.tableTurnedSpec) :=
  OpenClaim.holds_of_wide 4 Try.f4 rfl rfl rfl rfl rfl rfl rfl ⟨rfl, rfl, rfl, rfl, rfl⟩ rfl rfl rfl rfl rfl (by kernel_rfl) Try.func4 (by kernel_rfl)
    (of_decide_eq_true (by kernel_rfl)) (by unfold Func.isWrapper; first | (rw [if_pos (by decide +kernel)]; kernel_rfl) | (rw [if_neg (by decide +kernel)]; exact ⟨rfl, rfl⟩))
    (fun os started H enc _ => lifted os started H enc)

theorem proved : Rows.TableTurnedSaid :=
  over
#print axioms proved
end Go.Proofs.Yteknlobdnjcdbaa.tableTurned

