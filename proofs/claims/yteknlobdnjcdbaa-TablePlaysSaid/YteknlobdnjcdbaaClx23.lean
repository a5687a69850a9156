/-
  The document's table (layer 23) on the heap: At, Count, Ear, Put, Rest, Old.
  The document's table (layer 23): Put, Rest, Old.
  The document's table (layer 23): Listen, Deaf, Find.
  The document's table (layer 23): Find.
-/
import Derived.Test.YteknlobdnjcdbaaVexEE
import Derived.Test.YteknlobdnjcdbaaVexFF
import Derived.Test.YteknlobdnjcdbaaVexGG
import Derived.Test.YteknlobdnjcdbaaTab23
import Derived.Test.YteknlobdnjcdbaaXa23
import Derived.Test.YteknlobdnjcdbaaCa23
import Derived.Test.YteknlobdnjcdbaaCb23
import Derived.Test.YteknlobdnjcdbaaCc23
import Derived.Test.YteknlobdnjcdbaaXb23
import Derived.Test.YteknlobdnjcdbaaCe23
import Derived.Test.YteknlobdnjcdbaaCf23
import Derived.Test.YteknlobdnjcdbaaCi23
import Derived.Test.YteknlobdnjcdbaaCk23
import Derived.Test.YteknlobdnjcdbaaXy23
import Derived.Test.YteknlobdnjcdbaaXs23
import Derived.Test.YteknlobdnjcdbaaXk23
import Derived.Test.YteknlobdnjcdbaaCsx23
import Derived.Test.YteknlobdnjcdbaaCgx23
set_option linter.unusedVariables false
set_option linter.unusedSimpArgs false
namespace Go.Vex.TRef
open Go.Proofs Go.Vex.Tbl

section
variable {κ β : Type} [DecidableEq κ]
theorem midx_at : ∀ {l : List (κ × β)} (i : Nat) {k : Nat} {z : κ × β} {p : κ}, l[k]? = some z → z.1 = p → (∀ j y, j < k → l[j]? = some y → y.1 ≠ p) → midx p l i = some (i + k)
  | [], i, k, z, p, h, _, _ => by simp at h
  | x :: l, i, 0, z, p, h, e, _ => by
    simp at h; subst h; unfold midx; rw [if_pos e.symm]; rfl
  | x :: l, i, k + 1, z, p, h, e, hn => by
    unfold midx
    rw [if_neg (fun e' => hn 0 x (by omega) rfl e'.symm), midx_at (i + 1) (k := k) (by simpa using h) e (fun j y hj hy => hn (j + 1) y (by omega) (by simpa using hy))]
    congr 1; omega
theorem midx_no : ∀ {l : List (κ × β)} (i : Nat) {p : κ}, (∀ y ∈ l, y.1 ≠ p) → midx p l i = none
  | [], _, _, _ => rfl
  | x :: l, i, p, h => by
    unfold midx
    rw [if_neg (fun e => h x (List.mem_cons_self ..) e.symm)]
    exact midx_no (i + 1) fun y hy => h y (List.mem_cons_of_mem _ hy)
end

def atI : Option Nat → Int
  | some j => j
  | none => -1

def lRow (z : Pr × (Int × Int)) : List V := [.int .u32 z.1.a, .int .u16 z.1.b, .int .u32 z.1.c, .int .u16 z.1.d, .int .u64 z.2.1, .int .i64 z.2.2]
def eRow (z : Int × Ad) : List V := [.int .u64 z.1, .int .u32 z.2.ip, .int .u16 z.2.port]

abbrev LT := List (Pr × (Int × Int))
abbrev ET := List (Int × Ad)

structure RefAt (r : Nat) (L : LT) (E : ET) (h : Hp) (a1 : Option (Nat × Nat)) (f1 : Bool) (G1 : List Nat) (a2 : Option (Nat × Nat)) (f2 : Bool) (G2 : List Nat) : Prop where
  row : h.get r = some (.row [.slc a1 L.length f1, .slc a2 E.length f2] 1 false)
  o1 : Own 6 a1 L.length (L.map lRow) h G1
  o2 : Own 3 a2 E.length (E.map eRow) h G2
  n1 : r ∉ G1
  n2 : r ∉ G2
  d : ∀ j ∈ G1, j ∉ G2

def RefR (r : Nat) (L : LT) (E : ET) (h : Hp) (F : List Nat) : Prop := ∃ a1 f1 G1 a2 f2 G2, RefAt r L E h a1 f1 G1 a2 f2 G2 ∧ F = r :: (G1 ++ G2)

theorem RefAt.loc {r : Nat} {L : LT} {E : ET} {h h' : Hp} {a1 : Option (Nat × Nat)} {f1 : Bool} {G1 : List Nat} {a2 : Option (Nat × Nat)} {f2 : Bool} {G2 : List Nat} (a : RefAt r L E h a1 f1 G1 a2 f2 G2) (hs : ∀ j ∈ r :: (G1 ++ G2), h'.get j = h.get j) : RefAt r L E h' a1 f1 G1 a2 f2 G2 :=
  ⟨by rw [hs r (by simp)]; exact a.row, (Own.rep _ _ _ _).loc _ _ _ (fun j hj => hs j (by simp [hj])) a.o1, (Own.rep _ _ _ _).loc _ _ _ (fun j hj => hs j (by simp [hj])) a.o2, a.n1, a.n2, a.d⟩

theorem RefR.rep (r : Nat) (L : LT) (E : ET) : Rep (RefR r L E) where
  loc := fun h h' F hs ⟨a1, f1, G1, a2, f2, G2, a, e⟩ => by
    subst e
    exact ⟨a1, f1, G1, a2, f2, G2, a.loc hs, rfl⟩
  dom := fun h F ⟨a1, f1, G1, a2, f2, G2, a, e⟩ j hj => by
    subst e
    rcases List.mem_cons.1 hj with rfl | hj
    · exact ⟨_, a.row, rfl⟩
    · rcases List.mem_append.1 hj with hj | hj
      · exact (Own.rep _ _ _ _).dom _ _ a.o1 j hj
      · exact (Own.rep _ _ _ _).dom _ _ a.o2 j hj

section
variable {r : Nat} {L : LT} {E : ET} {h : Hp} {F : List Nat} {a1 : Option (Nat × Nat)} {f1 : Bool} {G1 : List Nat} {a2 : Option (Nat × Nat)} {f2 : Bool} {G2 : List Nat}

theorem RefAt.lt (a : RefAt r L E h a1 f1 G1 a2 f2 G2) (hw : h.wf) : ∀ j ∈ r :: (G1 ++ G2), j < h.next := fun j hj => (RefR.rep r L E).lt hw ⟨a1, f1, G1, a2, f2, G2, a, rfl⟩ hj
theorem RefAt.ld0 (a : RefAt r L E h a1 f1 G1 a2 f2 G2) : h.ld r 0 = some (.slc a1 L.length f1) := by rw [Hp.ld_of a.row]; rfl
theorem RefAt.ld1 (a : RefAt r L E h a1 f1 G1 a2 f2 G2) : h.ld r 1 = some (.slc a2 E.length f2) := by rw [Hp.ld_of a.row]; rfl

/-- an item, as it is read -/
theorem RefAt.item (a : RefAt r L E h a1 f1 G1 a2 f2 G2) {k : Nat} {z : Pr × (Int × Int)} (hz : L[k]? = some z) : ∃ q o, a1 = some (q, o) ∧ h.lda q (o + k * 6) 6 = some (.agg (lRow z)) ∧ h.lda q (o + k * 6 + 0) 4 = some z.1.v ∧ h.ld q (o + k * 6 + 4) = some (.int .u64 z.2.1) ∧ h.ld q (o + k * 6 + 5) = some (.int .i64 z.2.2) := by
  have hk := (List.getElem?_eq_some_iff.1 hz).1
  obtain ⟨q, o, row, rfl, hr, hl, hld, hlda⟩ := a.o1.ld (k := k) hk
  have e : (L.map lRow)[k]? = some (lRow z) := by rw [List.getElem?_map, hz]; rfl
  rw [e] at hr
  cases hr
  refine ⟨q, o, rfl, hlda, ?_, hld 4 (by omega), hld 5 (by omega)⟩
  have := a.o1.sub (k := k) (r := lRow z) (q := q) (o := o) e rfl (i := 0) (l := 4) (by omega)
  rw [this]; rfl

theorem RefAt.ear (a : RefAt r L E h a1 f1 G1 a2 f2 G2) {k : Nat} {z : Int × Ad} (hz : E[k]? = some z) : ∃ q o, a2 = some (q, o) ∧ h.ld q (o + k * 3 + 0) = some (.int .u64 z.1) ∧ h.lda q (o + k * 3 + 1) 2 = some (adV z.2) := by
  have hk := (List.getElem?_eq_some_iff.1 hz).1
  obtain ⟨q, o, row, rfl, hr, hl, hld, hlda⟩ := a.o2.ld (k := k) hk
  have e : (E.map eRow)[k]? = some (eRow z) := by rw [List.getElem?_map, hz]; rfl
  rw [e] at hr
  cases hr
  refine ⟨q, o, rfl, hld 0 (by omega), ?_⟩
  have := a.o2.sub (k := k) (r := eRow z) (q := q) (o := o) e rfl (i := 1) (l := 2) (by omega)
  rw [this]; rfl

theorem at_spec (hw : h.wf) (a : RefAt r L E h a1 f1 G1 a2 f2 G2) (hl : L.length ≤ 1000000) (p : Pr) : XCalls Try.prog 34 [.ptr (some (r, 0)), p.v] h fun v h' => v = .int .i64 (atI (midx p L 0)) ∧ Quiet h h' := by
  refine XCalls.cps fun K hK => ?_
  apply x34; unfold X34
  rintro h1 rfl
  have q1 := Quiet.alloc hw (.row [.int .u32 p.a, .int .u16 p.b, .int .u32 p.c, .int .u16 p.d] 1 false)
  have g1 : (h.alloc (.row [.int .u32 p.a, .int .u16 p.b, .int .u32 p.c, .int .u16 p.d] 1 false)).get h.next = some (.row [.int .u32 p.a, .int .u16 p.b, .int .u32 p.c, .int .u16 p.d] 1 false) := Hp.get_alloc_self
  generalize h.alloc (.row [.int .u32 p.a, .int .u16 p.b, .int .u32 p.c, .int .u16 p.d] 1 false) = h1 at *
  have b := a.loc fun j hj => q1.same j (a.lt hw j hj)
  refine ⟨fun vs g => match vs with
    | [.int _ i] => g = h1 ∧ ∃ k : Nat, i = k ∧ k ≤ L.length ∧ ∀ j y, j < k → L[j]? = some y → y.1 ≠ p
    | _ => False, fun vs _ => match vs with
    | [.int _ i] => L.length - i.toNat
    | _ => 0, ⟨by trivial, rfl, 0, rfl, by omega, fun j y hj => by omega⟩, ?_⟩
  rintro bs i g ⟨hg, k, rfl, hk, hno⟩
  rw [hg]
  refine ⟨_, _, _, b.ld0, ?_⟩
  cases hi : ltI (↑k) (↑L.length) with
  | false =>
    rw [ltI_eq, decide_eq_false_iff_not] at hi
    refine hK _ _ ⟨?_, q1⟩
    rw [midx_no 0 fun y hy e => ?_]
    · rfl
    · obtain ⟨j, hj⟩ := List.mem_iff_getElem?.1 hy
      have := (List.getElem?_eq_some_iff.1 hj).1
      exact hno j y (by omega) hj e
  | true =>
    rw [ltI_eq, decide_eq_true_eq] at hi
    obtain ⟨z, hz⟩ : ∃ z, L[k]? = some z := ⟨_, List.getElem?_eq_getElem (by omega)⟩
    obtain ⟨q, o, e, _, l4, _, _⟩ := b.item hz
    refine ⟨_, _, _, b.ld0, ⟨by omega, hi⟩, ?_⟩
    rw [e]
    refine ⟨z.1.a, z.1.b, z.1.c, z.1.d, by rw [Int.toNat_natCast]; exact l4, p.a, p.b, p.c, p.d, by simp (disch := (first | omega | (simp only [Hp.alloc_next, Hp.set_next] <;> omega) | (simp (disch := (first | omega | (simp only [Hp.alloc_next, Hp.set_next] <;> omega) | fail)) only [Hp.get_set_self, Hp.get_set_ne, Hp.get_alloc_self, Hp.get_alloc_ne, Hp.get_alloc_at, Hp.get_set_at, Hp.set_next, Hp.alloc_next, g1]; done) | fail)) only [Hp.st, Hp.ld, Hp.lda, splice, ble_eq', if_true, if_false, ite_true, ite_false, cond_true, cond_false, decide_true, decide_false, List.length_cons, List.length_nil, List.take_zero, List.take_succ_cons, List.nil_append, List.cons_append, List.append_nil, List.drop_succ_cons, List.drop_zero, List.drop_nil, List.getElem?_cons_succ, List.getElem?_cons_zero, Nat.reduceAdd, Nat.reduceLeDiff, Nat.reduceEqDiff, Nat.zero_add, Nat.add_zero, Nat.le_refl, Nat.zero_le, Nat.succ_ne_self, Nat.mul_one, Int.toNat_natCast, Option.some.injEq, Option.isNone_some, Option.isNone_none, V.int.injEq, V.str.injEq, V.bool.injEq, V.ptr.injEq, V.slc.injEq, V.map.injEq, V.agg.injEq, V.tup.injEq, List.cons.injEq, Prod.mk.injEq, onS, true_and, and_true, and_assoc, exists_and_left, exists_eq_left', forall_eq, heq_eq_eq, reduceCtorEq, Bool.not_true, Bool.not_false, eq_self, not_false_eq_true, Nat.left_eq_add, Nat.add_eq_left, Nat.add_left_cancel_iff, Nat.add_right_cancel_iff, Nat.reduceEqDiff, Nat.one_ne_zero, Hp.get_set_self, Hp.get_set_ne, Hp.get_alloc_self, Hp.get_alloc_ne, Hp.get_alloc_at, Hp.get_set_at, Hp.set_next, Hp.alloc_next, Option.some_ne_none, V.tup.injEq, Option.isSome_some, Option.isSome_none, exists_eq_left, exists_eq, Nat.mul_zero, g1], ?_⟩
    have hc : (z.1.a == p.a && (z.1.b == p.b && true) && (z.1.c == p.c && (z.1.d == p.d && true) && true)) = decide (z.1 = p) := by
      obtain ⟨⟨a1', a2', a3', a4'⟩, _⟩ := z
      obtain ⟨b1, b2, b3, b4⟩ := p
      rw [Bool.eq_iff_iff]
      simp [and_assoc]
    rw [hc]
    by_cases he : z.1 = p
    · rw [decide_eq_true he]
      refine hK _ _ ⟨?_, q1⟩
      rw [midx_at 0 hz he hno, Nat.zero_add]; rfl
    · rw [decide_eq_false he]
      have hwk : IntKind.i64.wrap ((k : Int) + 1) = ((k + 1 : Nat) : Int) := by rw [wr (by omega) (by omega)]; rfl
      rw [hwk]
      refine ⟨by trivial, ⟨rfl, k + 1, rfl, by omega, fun j y hj hy => ?_⟩, by show L.length - ((k + 1 : Nat) : Int).toNat < L.length - (k : Int).toNat; omega⟩
      by_cases hjk : j = k
      · rw [hjk, hz] at hy; cases hy; exact he
      · exact hno j y (by omega) hy

theorem ear_spec (hw : h.wf) (a : RefAt r L E h a1 f1 G1 a2 f2 G2) (hl : E.length ≤ 1000000) (s : Int) : XCalls Try.prog 35 [.ptr (some (r, 0)), .int .u64 s] h fun v h' => v = .int .i64 (atI (midx s E 0)) ∧ h' = h := by
  refine XCalls.cps fun K hK => ?_
  apply x35; unfold X35
  refine ⟨fun vs g => match vs with
    | [.int _ i] => g = h ∧ ∃ k : Nat, i = k ∧ k ≤ E.length ∧ ∀ j y, j < k → E[j]? = some y → y.1 ≠ s
    | _ => False, fun vs _ => match vs with
    | [.int _ i] => E.length - i.toNat
    | _ => 0, ⟨by trivial, rfl, 0, rfl, by omega, fun j y hj => by omega⟩, ?_⟩
  rintro bs i g ⟨hg, k, rfl, hk, hno⟩
  rw [hg]
  refine ⟨_, _, _, a.ld1, ?_⟩
  cases hi : ltI (↑k) (↑E.length) with
  | false =>
    rw [ltI_eq, decide_eq_false_iff_not] at hi
    refine hK _ _ ⟨?_, rfl⟩
    rw [midx_no 0 fun y hy e => ?_]
    · rfl
    · obtain ⟨j, hj⟩ := List.mem_iff_getElem?.1 hy
      have := (List.getElem?_eq_some_iff.1 hj).1
      exact hno j y (by omega) hj e
  | true =>
    rw [ltI_eq, decide_eq_true_eq] at hi
    obtain ⟨z, hz⟩ : ∃ z, E[k]? = some z := ⟨_, List.getElem?_eq_getElem (by omega)⟩
    obtain ⟨q, o, e, l0, _⟩ := a.ear hz
    refine ⟨_, _, _, a.ld1, ⟨by omega, hi⟩, ?_⟩
    rw [e]
    refine ⟨z.1, by rw [Int.toNat_natCast]; exact l0, ?_⟩
    by_cases he : z.1 = s
    · rw [show (z.1 == s) = true by simpa using he]
      refine hK _ _ ⟨?_, rfl⟩
      rw [midx_at 0 hz he hno, Nat.zero_add]; rfl
    · rw [show (z.1 == s) = false by simpa using he]
      have hwk : IntKind.i64.wrap ((k : Int) + 1) = ((k + 1 : Nat) : Int) := by rw [wr (by omega) (by omega)]; rfl
      rw [hwk]
      refine ⟨by trivial, ⟨rfl, k + 1, rfl, by omega, fun j y hj hy => ?_⟩, by show E.length - ((k + 1 : Nat) : Int).toNat < E.length - (k : Int).toNat; omega⟩
      by_cases hjk : j = k
      · rw [hjk, hz] at hy; cases hy; exact he
      · exact hno j y (by omega) hy

/-- how many connections there are -/
def cnt (L : LT) : Nat := L.countP fun z => z.2.1 != 0

theorem count_spec (hw : h.wf) (a : RefAt r L E h a1 f1 G1 a2 f2 G2) (hl : L.length ≤ 1000000) : XCalls Try.prog 23 [.ptr (some (r, 0))] h fun v h' => v = .tup [.int .i64 (cnt L), .int .i64 ((L.length : Int) - cnt L)] ∧ h' = h := by
  refine XCalls.cps fun K hK => ?_
  apply x23; unfold X23
  refine ⟨fun vs g => match vs with
    | [.int _ c, .int _ i] => g = h ∧ ∃ k : Nat, i = k ∧ k ≤ L.length ∧ c = (cnt (L.take k) : Nat)
    | _ => False, fun vs _ => match vs with
    | [.int _ _, .int _ i] => L.length - i.toNat
    | _ => 0, ⟨by trivial, rfl, 0, rfl, by omega, rfl⟩, ?_⟩
  rintro bs c i g ⟨hg, k, rfl, hk, rfl⟩
  rw [hg]
  have hc1 : cnt (L.take k) ≤ k := by
    have := List.countP_le_length (p := fun z : Pr × (Int × Int) => z.2.1 != 0) (l := L.take k)
    rw [List.length_take] at this
    unfold cnt; omega
  refine ⟨_, _, _, a.ld0, ?_⟩
  cases hi : ltI (↑k) (↑L.length) with
  | false =>
    rw [ltI_eq, decide_eq_false_iff_not] at hi
    obtain rfl : k = L.length := by omega
    rw [List.take_length]
    rw [List.take_length] at hc1
    refine ⟨_, _, _, a.ld0, hK _ _ ⟨?_, rfl⟩⟩
    rw [wr (by omega) (by omega)]
  | true =>
    rw [ltI_eq, decide_eq_true_eq] at hi
    obtain ⟨z, hz⟩ : ∃ z, L[k]? = some z := ⟨_, List.getElem?_eq_getElem (by omega)⟩
    obtain ⟨q, o, e, _, _, l4, _⟩ := a.item hz
    refine ⟨_, _, _, a.ld0, ⟨by omega, hi⟩, ?_⟩
    rw [e]
    have hwk : IntKind.i64.wrap ((k : Int) + 1) = ((k + 1 : Nat) : Int) := by rw [wr (by omega) (by omega)]; rfl
    have hwc : IntKind.i64.wrap ((cnt (L.take k) : Int) + 1) = ((cnt (L.take k) + 1 : Nat) : Int) := by rw [wr (by omega) (by omega)]; rfl
    have hnx : cnt (L.take (k + 1)) = cnt (L.take k) + (if (z.2.1 != 0) = true then 1 else 0) := by
      unfold cnt
      rw [List.take_add_one, hz, List.countP_append]
      simp [List.countP_cons]
    refine ⟨z.2.1, by rw [Int.toNat_natCast]; exact l4, ?_⟩
    rw [hwk, hwc]
    have ms : L.length - ((k + 1 : Nat) : Int).toNat < L.length - (k : Int).toNat := by omega
    cases hs : z.2.1 != 0 with
    | true =>
      rw [hs, if_pos rfl] at hnx
      exact ⟨by trivial, ⟨rfl, k + 1, rfl, by omega, by rw [hnx]⟩, ms⟩
    | false =>
      rw [hs, if_neg (by simp)] at hnx
      exact ⟨by trivial, ⟨rfl, k + 1, rfl, by omega, by rw [hnx]; rfl⟩, ms⟩

end
end Go.Vex.TRef
namespace Go.Vex.TRef
open Go.Proofs Go.Vex.Tbl

theorem appN {t e sz : Nat} (hT : ∃ ti ei, T t = some ti ∧ ti.d = .slc e ∧ T e = some ei ∧ ei.size = sz ∧ ei.bytes ≤ 64 ∧ zok ei = true) (h1 : 1 ≤ sz) {n : Nat} {a : Option (Nat × Nat)} {f : Bool} {rows : List (List V)} {g : Hp} {G : List Nat} {c : List V} (hc : c.length = sz) (ho : Own sz a n rows g G) (hw : g.wf) (hl : n ≤ 1000000000) :
    ∃ h', xapp T (g.alloc (.row c sz false)) t t (.slc a n f) (.slc (some (g.next, 0)) 1 true) = some (.slc (some (g.next + 1, 0)) (n + 1) false, h') ∧
      Own sz (some (g.next + 1, 0)) (n + 1) (rows ++ [c]) h' [g.next + 1] ∧ (∀ j, j < g.next → j ∉ G → h'.get j = g.get j) ∧ g.next + 1 < h'.next ∧ h'.wf := by
  obtain ⟨ti, ei, ht, hd, he, hs, hb, hz⟩ := hT
  have q := Quiet.alloc hw (.row c sz false)
  have ho' := (Own.rep _ _ _ _).stay hw ho q.same
  have hcc : (g.alloc (.row c sz false)).get g.next = some (.row c sz false) := Hp.get_alloc_self
  have hud : ∀ k, ti.d ≠ .int k := fun k e => by rw [hd] at e; cases e
  have hmul : (n + 1) * ei.bytes ≤ 1000000001 * 64 := Nat.mul_le_mul (by omega) hb
  obtain ⟨h', hx, ho2, u, wf⟩ := ho'.app (f := f) q.wf ht hd ht hud he hs h1 hz (news := [c]) (xnews_one hcc hc) (by simp [hc]) (by simp) (by simp only [List.length_singleton]; omega) (by simp; omega)
  have hnx : (g.alloc (.row c sz false)).next = g.next + 1 := Hp.alloc_next _ _
  rw [hnx] at hx ho2
  refine ⟨h', hx, ho2, fun j hj hG => ?_, ?_, wf⟩
  · rw [u.same j (by omega) hG]; exact q.same j hj
  · exact (Own.rep _ _ _ _).lt wf ho2 (by simp)

theorem t54 : ∃ ti ei, T 54 = some ti ∧ ti.d = .slc 81 ∧ T 81 = some ei ∧ ei.size = 6 ∧ ei.bytes ≤ 64 ∧ zok ei = true := ⟨_, _, rfl, rfl, rfl, rfl, by decide, rfl⟩

section
variable {r : Nat} {L : LT} {E : ET} {h g : Hp} {F : List Nat} {a1 : Option (Nat × Nat)} {f1 : Bool} {G1 : List Nat} {a2 : Option (Nat × Nat)} {f2 : Bool} {G2 : List Nat}

/-- the slice of items is another one -/
theorem RefAt.items (a : RefAt r L E g a1 f1 G1 a2 f2 G2) (hw : g.wf) {g' : Hp} {L' : LT} {p : Option (Nat × Nat)} {f : Bool} {G' : List Nat} (o : Own 6 p L'.length (L'.map lRow) g' G') (hw' : g'.wf) (hle : g.next ≤ g'.next) (hs : ∀ j, j < g.next → j ∉ G1 → g'.get j = g.get j) (hG : ∀ j ∈ G', j ∈ G1 ∨ g.next ≤ j) :
    ∃ g2, g'.st r 0 [.slc p L'.length f] = some g2 ∧ RefAt r L' E g2 p f G' a2 f2 G2 ∧ Upd g g2 (r :: (G1 ++ G2)) (r :: (G' ++ G2)) ∧ g2.wf := by
  have al := a.lt hw
  have hrl := al r (by simp)
  have gr : g'.get r = some (.row [.slc a1 L.length f1, .slc a2 E.length f2] 1 false) := by rw [hs r hrl a.n1]; exact a.row
  have s2 : ∀ j, j ≠ r → (g'.set r (.row (splice [.slc a1 L.length f1, .slc a2 E.length f2] 0 [.slc p L'.length f]) 1 false)).get j = g'.get j := fun j hj => Hp.get_set_ne hj
  have hrG : r ∉ G' := fun hh => by
    rcases hG r hh with h1 | h1
    · exact a.n1 h1
    · omega
  refine ⟨_, Hp.st_of gr (Nat.le_of_ble_eq_true rfl), ⟨by rw [Hp.get_set_self]; rfl, (Own.rep _ _ _ _).loc _ _ _ (fun j hj => s2 j (fun e => hrG (e ▸ hj))) o, (Own.rep _ _ _ _).loc _ _ _ (fun j hj => by
    rw [s2 j (fun e => a.n2 (e ▸ hj)), hs j (al j (by simp [hj])) (fun hh => a.d j hh hj)]) a.o2, hrG, a.n2, fun j hj hj2 => ?_⟩, ⟨fun j hj hF => ?_, fun j hj => ?_, hle⟩, hw'.set (by omega)⟩
  · rcases hG j hj with h1 | h1
    · exact a.d j h1 hj2
    · have := al j (by simp [hj2]); omega
  · simp only [List.mem_cons, List.mem_append, not_or] at hF
    rw [s2 j hF.1, hs j hj hF.2.1]
  · simp only [List.mem_cons, List.mem_append] at hj ⊢
    rcases hj with h1 | h1 | h1
    · exact .inl (.inl h1)
    · rcases hG j h1 with h2 | h2
      · exact .inl (.inr (.inl h2))
      · exact .inr h2
    · exact .inl (.inr (.inr h1))

/-- one more item -/
theorem RefAt.push (a : RefAt r L E g a1 f1 G1 a2 f2 G2) (hw : g.wf) (hl : L.length ≤ 1000000) (z : Pr × (Int × Int)) : (g.alloc (.row (lRow z) 6 false)).ld r 0 = some (.slc a1 L.length f1) ∧ ∃ p n f h5, xapp T (g.alloc (.row (lRow z) 6 false)) 54 54 (.slc a1 L.length f1) (.slc (some (g.next, 0)) 1 true) = some (.slc p n f, h5) ∧ ∃ h6, h5.st r 0 [.slc p n f] = some h6 ∧
    ∃ F', RefR r (L ++ [z]) E h6 F' ∧ Upd g h6 (r :: (G1 ++ G2)) F' ∧ h6.wf := by
  have q := Quiet.alloc hw (.row (lRow z) 6 false)
  obtain ⟨h5, hx, o5, s5, l5, w5⟩ := appN (f := f1) (c := lRow z) t54 (by omega) rfl a.o1 hw (by omega)
  have e1 : (L ++ [z]).map lRow = L.map lRow ++ [lRow z] := by simp
  have e2 : (L ++ [z]).length = L.length + 1 := by simp
  rw [← e1, ← e2] at o5
  obtain ⟨g2, hst, a', u', w'⟩ := a.items (f := false) hw o5 w5 (by omega) s5 (fun j hj => by rw [List.mem_singleton] at hj; exact .inr (by omega))
  rw [e2] at hst
  exact ⟨(a.loc fun j hj => q.same j (a.lt hw j hj)).ld0, _, _, _, h5, hx, g2, hst, _, ⟨_, _, _, _, _, _, a', rfl⟩, u', w'⟩

def putR (L : LT) (p : Pr) (s : Int) : Int × LT := if s = 0 then (2, L) else if (mget L p).isSome = true then (7, L) else if ¬ (cnt L : Int) < 1024 then (6, L) else (0, mput L p (s, 0))

theorem ge0 {p : Pr} {L : LT} : (!ltI (atI (midx p L 0)) 0) = (mget L p).isSome := by
  have h1 := mget_midx p L 0
  have h2 := midx_lt p L 0
  cases hm : midx p L 0 with
  | none => rw [hm] at h1; rw [h1]; rfl
  | some j =>
    rw [hm] at h1
    obtain ⟨_, x, hx, _⟩ := h2 j hm
    rw [h1]
    simp only
    rw [show ltI (atI (some j)) 0 = false by rw [ltI_eq, decide_eq_false_iff_not]; show ¬ ((j : Nat) : Int) < 0; omega, hx]; rfl

theorem put_spec (hw : h.wf) (rr : RefR r L E h F) (hl : L.length ≤ 1000000) (p : Pr) (s : Int) : XCalls Try.prog 17 [.ptr (some (r, 0)), p.v, .int .u64 s] h fun v h' => v = .int .i64 (putR L p s).1 ∧ ∃ F', RefR r (putR L p s).2 E h' F' ∧ Upd h h' F F' ∧ h'.wf := by
  obtain ⟨a1, f1, G1, a2, f2, G2, a, rfl⟩ := rr
  refine XCalls.cps fun K hK => ?_
  apply x17; unfold X17
  rintro h1 rfl
  have q1 := Quiet.alloc hw (.row [.int .u32 p.a, .int .u16 p.b, .int .u32 p.c, .int .u16 p.d] 1 false)
  have g1 : (h.alloc (.row [.int .u32 p.a, .int .u16 p.b, .int .u32 p.c, .int .u16 p.d] 1 false)).get h.next = some (.row [.int .u32 p.a, .int .u16 p.b, .int .u32 p.c, .int .u16 p.d] 1 false) := Hp.get_alloc_self
  generalize h.alloc (.row [.int .u32 p.a, .int .u16 p.b, .int .u32 p.c, .int .u16 p.d] 1 false) = h1 at *
  have al := a.lt hw
  have b := a.loc fun j hj => q1.same j (al j hj)
  have hl1 : h.next < h1.next := q1.wf _ _ g1
  have stop : ∀ c g, putR L p s = (c, L) → Quiet h g → K (.int .i64 c) g := fun c g hc q => hK _ _ (by
    rw [hc]
    exact ⟨rfl, _, ⟨_, _, _, _, _, _, a.loc fun j hj => q.same j (al j hj), rfl⟩, q.upd _, q.wf⟩)
  cases hs : s == 0 with
  | true => exact stop 2 h1 (by unfold putR; rw [if_pos (by simpa using hs)]) q1
  | false =>
  have hs0 : ¬ s = 0 := by simpa using hs
  refine ⟨p.a, p.b, p.c, p.d, by simp (disch := (first | omega | (simp only [Hp.alloc_next, Hp.set_next] <;> omega) | (simp (disch := (first | omega | (simp only [Hp.alloc_next, Hp.set_next] <;> omega) | fail)) only [Hp.get_set_self, Hp.get_set_ne, Hp.get_alloc_self, Hp.get_alloc_ne, Hp.get_alloc_at, Hp.get_set_at, Hp.set_next, Hp.alloc_next, g1]; done) | fail)) only [Hp.st, Hp.ld, Hp.lda, splice, ble_eq', if_true, if_false, ite_true, ite_false, cond_true, cond_false, decide_true, decide_false, List.length_cons, List.length_nil, List.take_zero, List.take_succ_cons, List.nil_append, List.cons_append, List.append_nil, List.drop_succ_cons, List.drop_zero, List.drop_nil, List.getElem?_cons_succ, List.getElem?_cons_zero, Nat.reduceAdd, Nat.reduceLeDiff, Nat.reduceEqDiff, Nat.zero_add, Nat.add_zero, Nat.le_refl, Nat.zero_le, Nat.succ_ne_self, Nat.mul_one, Int.toNat_natCast, Option.some.injEq, Option.isNone_some, Option.isNone_none, V.int.injEq, V.str.injEq, V.bool.injEq, V.ptr.injEq, V.slc.injEq, V.map.injEq, V.agg.injEq, V.tup.injEq, List.cons.injEq, Prod.mk.injEq, onS, true_and, and_true, and_assoc, exists_and_left, exists_eq_left', forall_eq, heq_eq_eq, reduceCtorEq, Bool.not_true, Bool.not_false, eq_self, not_false_eq_true, Nat.left_eq_add, Nat.add_eq_left, Nat.add_left_cancel_iff, Nat.add_right_cancel_iff, Nat.reduceEqDiff, Nat.one_ne_zero, Hp.get_set_self, Hp.get_set_ne, Hp.get_alloc_self, Hp.get_alloc_ne, Hp.get_alloc_at, Hp.get_set_at, Hp.set_next, Hp.alloc_next, Option.some_ne_none, V.tup.injEq, Option.isSome_some, Option.isSome_none, exists_eq_left, exists_eq, Nat.mul_zero, g1], ?_⟩
  refine (at_spec q1.wf b hl p).mono ?_
  rintro _ h2 ⟨rfl, q2⟩
  refine ⟨_, rfl, ?_⟩
  rw [ge0]
  cases hm : (mget L p).isSome with
  | true => exact stop 7 h2 (by unfold putR; rw [if_neg hs0, if_pos hm]) (q1.trans q2)
  | false =>
  have q12 := q1.trans q2
  have b2 := a.loc fun j hj => q12.same j (al j hj)
  refine (count_spec q2.wf b2 hl).mono ?_
  rintro _ _ ⟨rfl, rfl⟩
  rename_i h2
  refine ⟨_, _, rfl, ?_⟩
  cases hc : ltI (↑(cnt L)) 1024 with
  | false =>
    rw [ltI_eq, decide_eq_false_iff_not] at hc
    exact stop 6 h2 (by unfold putR; rw [if_neg hs0, if_neg (by rw [hm]; exact Bool.false_ne_true), if_pos hc]) q12
  | true =>
    rw [ltI_eq, decide_eq_true_eq] at hc
    have g2 : h2.get h.next = some (.row [.int .u32 p.a, .int .u16 p.b, .int .u32 p.c, .int .u16 p.d] 1 false) := by rw [q2.same _ hl1]; exact g1
    refine ⟨_, _, _, b2.ld0, p.a, p.b, p.c, p.d, by simp (disch := (first | omega | (simp only [Hp.alloc_next, Hp.set_next] <;> omega) | (simp (disch := (first | omega | (simp only [Hp.alloc_next, Hp.set_next] <;> omega) | fail)) only [Hp.get_set_self, Hp.get_set_ne, Hp.get_alloc_self, Hp.get_alloc_ne, Hp.get_alloc_at, Hp.get_set_at, Hp.set_next, Hp.alloc_next, g2]; done) | fail)) only [Hp.st, Hp.ld, Hp.lda, splice, ble_eq', if_true, if_false, ite_true, ite_false, cond_true, cond_false, decide_true, decide_false, List.length_cons, List.length_nil, List.take_zero, List.take_succ_cons, List.nil_append, List.cons_append, List.append_nil, List.drop_succ_cons, List.drop_zero, List.drop_nil, List.getElem?_cons_succ, List.getElem?_cons_zero, Nat.reduceAdd, Nat.reduceLeDiff, Nat.reduceEqDiff, Nat.zero_add, Nat.add_zero, Nat.le_refl, Nat.zero_le, Nat.succ_ne_self, Nat.mul_one, Int.toNat_natCast, Option.some.injEq, Option.isNone_some, Option.isNone_none, V.int.injEq, V.str.injEq, V.bool.injEq, V.ptr.injEq, V.slc.injEq, V.map.injEq, V.agg.injEq, V.tup.injEq, List.cons.injEq, Prod.mk.injEq, onS, true_and, and_true, and_assoc, exists_and_left, exists_eq_left', forall_eq, heq_eq_eq, reduceCtorEq, Bool.not_true, Bool.not_false, eq_self, not_false_eq_true, Nat.left_eq_add, Nat.add_eq_left, Nat.add_left_cancel_iff, Nat.add_right_cancel_iff, Nat.reduceEqDiff, Nat.one_ne_zero, Hp.get_set_self, Hp.get_set_ne, Hp.get_alloc_self, Hp.get_alloc_ne, Hp.get_alloc_at, Hp.get_set_at, Hp.set_next, Hp.alloc_next, Option.some_ne_none, V.tup.injEq, Option.isSome_some, Option.isSome_none, exists_eq_left, exists_eq, Nat.mul_zero, g2], ?_⟩
    rintro h4 rfl
    obtain ⟨hld, p1, n, f, h5, hx, h6, hst, F', r6, u6, w6⟩ := b2.push q12.wf hl (p, (s, 0))
    refine ⟨⟨_, _, _, hld, rfl⟩, rfl, rfl, rfl, rfl, p1, n, f, h5, hx, rfl, h6, hst, hK _ _ ?_⟩
    have hno : mget L p = none := by simpa using hm
    have e : putR L p s = (0, L ++ [(p, (s, 0))]) := by unfold putR; rw [if_neg hs0, if_neg (by rw [hm]; exact Bool.false_ne_true), if_neg (by omega), mput_none _ _ _ hno]
    rw [e]
    exact ⟨rfl, F', r6, (q12.upd _).trans u6, w6⟩

/-- an item turned in its place -/
theorem RefAt.turn (a : RefAt r L E g a1 f1 G1 a2 f2 G2) (hw : g.wf) {k : Nat} (hk : k < L.length) (z : Pr × (Int × Int)) : ∃ q o h', a1 = some (q, o) ∧ g.st q (o + k * 6) (lRow z) = some h' ∧ RefAt r (L.set k z) E h' a1 f1 G1 a2 f2 G2 ∧ Upd g h' (r :: (G1 ++ G2)) (r :: (G1 ++ G2)) ∧ h'.wf := by
  have al := a.lt hw
  obtain ⟨q, o, h', e, hst, ho, hs, hn, hw'⟩ := a.o1.stN hw hk (row := lRow z) rfl
  refine ⟨q, o, h', e, hst, ⟨by rw [hs r a.n1, List.length_set]; exact a.row, by rw [List.length_set, List.map_set]; exact ho, (Own.rep _ _ _ _).loc _ _ _ (fun j hj => hs j (fun hh => a.d j hh hj)) a.o2, a.n1, a.n2, a.d⟩, ⟨fun j hj hF => hs j (fun hh => hF (by simp [hh])), fun j hj => .inl hj, by omega⟩, hw'⟩

def restR (L : LT) (p : Pr) (u : Int) : Int × LT :=
  match mget L p with
  | some x => if x.1 = 0 then (0, mput L p (0, if u < x.2 then x.2 else u)) else if ¬ ((L.length : Int) - cnt L) < 1024 then (6, L) else (0, mput L p (0, u))
  | none => if ¬ ((L.length : Int) - cnt L) < 1024 then (6, L) else (0, mput L p (0, u))

theorem rest_spec (hw : h.wf) (rr : RefR r L E h F) (hl : L.length ≤ 1000000) (p : Pr) (u : Int) : XCalls Try.prog 18 [.ptr (some (r, 0)), p.v, .int .i64 u] h fun v h' => v = .int .i64 (restR L p u).1 ∧ ∃ F', RefR r (restR L p u).2 E h' F' ∧ Upd h h' F F' ∧ h'.wf := by
  obtain ⟨a1, f1, G1, a2, f2, G2, a, rfl⟩ := rr
  refine XCalls.cps fun K hK => ?_
  apply x18; unfold X18
  rintro h1 rfl
  have q1 := Quiet.alloc hw (.row [.int .u32 p.a, .int .u16 p.b, .int .u32 p.c, .int .u16 p.d] 1 false)
  have g1 : (h.alloc (.row [.int .u32 p.a, .int .u16 p.b, .int .u32 p.c, .int .u16 p.d] 1 false)).get h.next = some (.row [.int .u32 p.a, .int .u16 p.b, .int .u32 p.c, .int .u16 p.d] 1 false) := Hp.get_alloc_self
  generalize h.alloc (.row [.int .u32 p.a, .int .u16 p.b, .int .u32 p.c, .int .u16 p.d] 1 false) = h1 at *
  have al := a.lt hw
  have b := a.loc fun j hj => q1.same j (al j hj)
  have hl1 : h.next < h1.next := q1.wf _ _ g1
  refine ⟨p.a, p.b, p.c, p.d, by simp (disch := (first | omega | (simp only [Hp.alloc_next, Hp.set_next] <;> omega) | (simp (disch := (first | omega | (simp only [Hp.alloc_next, Hp.set_next] <;> omega) | fail)) only [Hp.get_set_self, Hp.get_set_ne, Hp.get_alloc_self, Hp.get_alloc_ne, Hp.get_alloc_at, Hp.get_set_at, Hp.set_next, Hp.alloc_next, g1]; done) | fail)) only [Hp.st, Hp.ld, Hp.lda, splice, ble_eq', if_true, if_false, ite_true, ite_false, cond_true, cond_false, decide_true, decide_false, List.length_cons, List.length_nil, List.take_zero, List.take_succ_cons, List.nil_append, List.cons_append, List.append_nil, List.drop_succ_cons, List.drop_zero, List.drop_nil, List.getElem?_cons_succ, List.getElem?_cons_zero, Nat.reduceAdd, Nat.reduceLeDiff, Nat.reduceEqDiff, Nat.zero_add, Nat.add_zero, Nat.le_refl, Nat.zero_le, Nat.succ_ne_self, Nat.mul_one, Int.toNat_natCast, Option.some.injEq, Option.isNone_some, Option.isNone_none, V.int.injEq, V.str.injEq, V.bool.injEq, V.ptr.injEq, V.slc.injEq, V.map.injEq, V.agg.injEq, V.tup.injEq, List.cons.injEq, Prod.mk.injEq, onS, true_and, and_true, and_assoc, exists_and_left, exists_eq_left', forall_eq, heq_eq_eq, reduceCtorEq, Bool.not_true, Bool.not_false, eq_self, not_false_eq_true, Nat.left_eq_add, Nat.add_eq_left, Nat.add_left_cancel_iff, Nat.add_right_cancel_iff, Nat.reduceEqDiff, Nat.one_ne_zero, Hp.get_set_self, Hp.get_set_ne, Hp.get_alloc_self, Hp.get_alloc_ne, Hp.get_alloc_at, Hp.get_set_at, Hp.set_next, Hp.alloc_next, Option.some_ne_none, V.tup.injEq, Option.isSome_some, Option.isSome_none, exists_eq_left, exists_eq, Nat.mul_zero, g1], ?_⟩
  refine (at_spec q1.wf b hl p).mono ?_
  rintro _ h2 ⟨rfl, q2⟩
  refine ⟨_, rfl, ?_⟩
  have q12 := q1.trans q2
  have b2 := a.loc fun j hj => q12.same j (al j hj)
  refine (count_spec q2.wf b2 hl).mono ?_
  rintro _ _ ⟨rfl, rfl⟩
  rename_i h2
  refine ⟨_, _, rfl, ?_⟩
  have g2 : h2.get h.next = some (.row [.int .u32 p.a, .int .u16 p.b, .int .u32 p.c, .int .u16 p.d] 1 false) := by rw [q2.same _ hl1]; exact g1
  have full : restR L p u = (6, L) → K (.int .i64 6) h2 := fun hc => hK _ _ (by
    rw [hc]
    exact ⟨rfl, _, ⟨_, _, _, _, _, _, b2, rfl⟩, q12.upd _, q12.wf⟩)
  cases hm : midx p L 0 with
  | none =>
    have hno : mget L p = none := by rw [mget_midx p L 0, hm]
    have hF : restR L p u = if ¬ ((L.length : Int) - cnt L) < 1024 then (6, L) else (0, mput L p (0, u)) := by unfold restR; rw [hno]
    refine ⟨fun vs g => match vs with
      | [] => g = h2 ∧ ((L.length : Int) - cnt L) < 1024
      | _ => False, ?_, ?_⟩
    · cases hc : ltI ((L.length : Int) - cnt L) 1024 with
      | false =>
        rw [ltI_eq, decide_eq_false_iff_not] at hc
        exact full (by rw [hF, if_pos hc])
      | true =>
        rw [ltI_eq, decide_eq_true_eq] at hc
        exact ⟨by trivial, rfl, hc⟩
    rintro bs1 h2 ⟨rfl, hc⟩
    refine ⟨_, _, _, b2.ld0, p.a, p.b, p.c, p.d, by simp (disch := (first | omega | (simp only [Hp.alloc_next, Hp.set_next] <;> omega) | (simp (disch := (first | omega | (simp only [Hp.alloc_next, Hp.set_next] <;> omega) | fail)) only [Hp.get_set_self, Hp.get_set_ne, Hp.get_alloc_self, Hp.get_alloc_ne, Hp.get_alloc_at, Hp.get_set_at, Hp.set_next, Hp.alloc_next, g2]; done) | fail)) only [Hp.st, Hp.ld, Hp.lda, splice, ble_eq', if_true, if_false, ite_true, ite_false, cond_true, cond_false, decide_true, decide_false, List.length_cons, List.length_nil, List.take_zero, List.take_succ_cons, List.nil_append, List.cons_append, List.append_nil, List.drop_succ_cons, List.drop_zero, List.drop_nil, List.getElem?_cons_succ, List.getElem?_cons_zero, Nat.reduceAdd, Nat.reduceLeDiff, Nat.reduceEqDiff, Nat.zero_add, Nat.add_zero, Nat.le_refl, Nat.zero_le, Nat.succ_ne_self, Nat.mul_one, Int.toNat_natCast, Option.some.injEq, Option.isNone_some, Option.isNone_none, V.int.injEq, V.str.injEq, V.bool.injEq, V.ptr.injEq, V.slc.injEq, V.map.injEq, V.agg.injEq, V.tup.injEq, List.cons.injEq, Prod.mk.injEq, onS, true_and, and_true, and_assoc, exists_and_left, exists_eq_left', forall_eq, heq_eq_eq, reduceCtorEq, Bool.not_true, Bool.not_false, eq_self, not_false_eq_true, Nat.left_eq_add, Nat.add_eq_left, Nat.add_left_cancel_iff, Nat.add_right_cancel_iff, Nat.reduceEqDiff, Nat.one_ne_zero, Hp.get_set_self, Hp.get_set_ne, Hp.get_alloc_self, Hp.get_alloc_ne, Hp.get_alloc_at, Hp.get_set_at, Hp.set_next, Hp.alloc_next, Option.some_ne_none, V.tup.injEq, Option.isSome_some, Option.isSome_none, exists_eq_left, exists_eq, Nat.mul_zero, g2], ?_⟩
    rintro h4 rfl
    obtain ⟨hld, p1, n, f, h5, hx, h6, hst, F', r6, u6, w6⟩ := b2.push q12.wf hl (p, (0, u))
    refine ⟨⟨_, _, _, hld, rfl⟩, by trivial, by trivial, by trivial, by trivial, p1, n, f, h5, hx, by trivial, h6, hst, hK _ _ ?_⟩
    rw [hF, if_neg (by omega), mput_none _ _ _ hno]
    exact ⟨rfl, F', r6, (q12.upd _).trans u6, w6⟩
  | some j =>
    obtain ⟨_, z, hz, hzp⟩ := midx_lt p L 0 j hm
    rw [Nat.sub_zero] at hz
    have hj : j < L.length := (List.getElem?_eq_some_iff.1 hz).1
    have hg : mget L p = some z.2 := by rw [mget_midx p L 0, hm]; simp only [Nat.sub_zero, hz]; rfl
    have hput : ∀ w, mput L p w = L.set j (p, w) := fun w => by rw [mput_midx p w L 0, hm]; simp
    have hF : restR L p u = if z.2.1 = 0 then (0, mput L p (0, if u < z.2.2 then z.2.2 else u)) else if ¬ ((L.length : Int) - cnt L) < 1024 then (6, L) else (0, mput L p (0, u)) := by unfold restR; rw [hg]
    have hge : ltI (atI (some j)) 0 = false := by rw [ltI_eq, decide_eq_false_iff_not]; show ¬ ((j : Nat) : Int) < 0; omega
    have hjn : (atI (some j)).toNat = j := by show ((j : Nat) : Int).toNat = j; omega
    have hb : 0 ≤ atI (some j) ∧ atI (some j) < (L.length : Int) := by show 0 ≤ ((j : Nat) : Int) ∧ ((j : Nat) : Int) < _; omega
    obtain ⟨qq, oo, e, l6, l4, ls, lu⟩ := b2.item hz
    rw [hge]
    refine ⟨fun vs g => match vs with
      | [] => g = h2 ∧ (z.2.1 = 0 ∨ ((L.length : Int) - cnt L) < 1024)
      | _ => False, ?_, ?_⟩
    · refine ⟨_, _, _, b2.ld0, hb, ?_⟩
      rw [e]
      refine ⟨z.2.1, by rw [hjn]; exact ls, ?_⟩
      cases hs : z.2.1 != 0 with
      | false => exact ⟨by trivial, rfl, .inl (by simpa using hs)⟩
      | true =>
        cases hc : ltI ((L.length : Int) - cnt L) 1024 with
        | false =>
          rw [ltI_eq, decide_eq_false_iff_not] at hc
          exact full (by rw [hF, if_neg (by simpa using hs), if_pos hc])
        | true =>
          rw [ltI_eq, decide_eq_true_eq] at hc
          exact ⟨by trivial, rfl, .inr hc⟩
    rintro bs1 h2 ⟨rfl, hc⟩
    refine ⟨_, _, _, b2.ld0, hb, ?_⟩
    rw [e]
    refine ⟨z.1.a, z.1.b, z.1.c, z.1.d, z.2.1, z.2.2, by rw [hjn]; exact l6, ?_⟩
    rintro h7 rfl
    refine ⟨_, Hp.st_of Hp.get_alloc_self (Nat.le_of_ble_eq_true rfl), ?_⟩
    obtain ⟨h8, e8⟩ : ∃ h8, h8 = (h2.alloc (.row [.int .u32 0, .int .u16 0, .int .u32 0, .int .u16 0, .int .u64 0, .int .i64 0] 1 false)).set h2.next (.row (splice [.int .u32 0, .int .u16 0, .int .u32 0, .int .u16 0, .int .u64 0, .int .i64 0] 0 (lRow z)) 1 false) := ⟨_, rfl⟩
    have c8 : h8.get h2.next = some (.row (lRow z) 1 false) := by rw [e8, Hp.get_set_self]; rfl
    have q8 : Quiet h2 h8 := by rw [e8]; exact ⟨fun j hj => by simp (disch := (first | omega | (simp only [Hp.alloc_next, Hp.set_next] <;> omega) | (simp (disch := (first | omega | (simp only [Hp.alloc_next, Hp.set_next] <;> omega) | fail)) only [Hp.get_set_self, Hp.get_set_ne, Hp.get_alloc_self, Hp.get_alloc_ne, Hp.get_alloc_at, Hp.get_set_at, Hp.set_next, Hp.alloc_next]; done) | fail)) only [Hp.st, Hp.ld, Hp.lda, splice, ble_eq', if_true, if_false, ite_true, ite_false, cond_true, cond_false, decide_true, decide_false, List.length_cons, List.length_nil, List.take_zero, List.take_succ_cons, List.nil_append, List.cons_append, List.append_nil, List.drop_succ_cons, List.drop_zero, List.drop_nil, List.getElem?_cons_succ, List.getElem?_cons_zero, Nat.reduceAdd, Nat.reduceLeDiff, Nat.reduceEqDiff, Nat.zero_add, Nat.add_zero, Nat.le_refl, Nat.zero_le, Nat.succ_ne_self, Nat.mul_one, Int.toNat_natCast, Option.some.injEq, Option.isNone_some, Option.isNone_none, V.int.injEq, V.str.injEq, V.bool.injEq, V.ptr.injEq, V.slc.injEq, V.map.injEq, V.agg.injEq, V.tup.injEq, List.cons.injEq, Prod.mk.injEq, onS, true_and, and_true, and_assoc, exists_and_left, exists_eq_left', forall_eq, heq_eq_eq, reduceCtorEq, Bool.not_true, Bool.not_false, eq_self, not_false_eq_true, Nat.left_eq_add, Nat.add_eq_left, Nat.add_left_cancel_iff, Nat.add_right_cancel_iff, Nat.reduceEqDiff, Nat.one_ne_zero, Hp.get_set_self, Hp.get_set_ne, Hp.get_alloc_self, Hp.get_alloc_ne, Hp.get_alloc_at, Hp.get_set_at, Hp.set_next, Hp.alloc_next, Option.some_ne_none, V.tup.injEq, Option.isSome_some, Option.isSome_none, exists_eq_left, exists_eq, Nat.mul_zero], by simp (disch := (first | omega | (simp only [Hp.alloc_next, Hp.set_next] <;> omega) | (simp (disch := (first | omega | (simp only [Hp.alloc_next, Hp.set_next] <;> omega) | fail)) only [Hp.get_set_self, Hp.get_set_ne, Hp.get_alloc_self, Hp.get_alloc_ne, Hp.get_alloc_at, Hp.get_set_at, Hp.set_next, Hp.alloc_next]; done) | fail)) only [Hp.st, Hp.ld, Hp.lda, splice, ble_eq', if_true, if_false, ite_true, ite_false, cond_true, cond_false, decide_true, decide_false, List.length_cons, List.length_nil, List.take_zero, List.take_succ_cons, List.nil_append, List.cons_append, List.append_nil, List.drop_succ_cons, List.drop_zero, List.drop_nil, List.getElem?_cons_succ, List.getElem?_cons_zero, Nat.reduceAdd, Nat.reduceLeDiff, Nat.reduceEqDiff, Nat.zero_add, Nat.add_zero, Nat.le_refl, Nat.zero_le, Nat.succ_ne_self, Nat.mul_one, Int.toNat_natCast, Option.some.injEq, Option.isNone_some, Option.isNone_none, V.int.injEq, V.str.injEq, V.bool.injEq, V.ptr.injEq, V.slc.injEq, V.map.injEq, V.agg.injEq, V.tup.injEq, List.cons.injEq, Prod.mk.injEq, onS, true_and, and_true, and_assoc, exists_and_left, exists_eq_left', forall_eq, heq_eq_eq, reduceCtorEq, Bool.not_true, Bool.not_false, eq_self, not_false_eq_true, Nat.left_eq_add, Nat.add_eq_left, Nat.add_left_cancel_iff, Nat.add_right_cancel_iff, Nat.reduceEqDiff, Nat.one_ne_zero, Hp.get_set_self, Hp.get_set_ne, Hp.get_alloc_self, Hp.get_alloc_ne, Hp.get_alloc_at, Hp.get_set_at, Hp.set_next, Hp.alloc_next, Option.some_ne_none, V.tup.injEq, Option.isSome_some, Option.isSome_none, exists_eq_left, exists_eq, Nat.mul_zero]; omega, q12.wf.alloc.set (Nat.lt_succ_self _)⟩
    show ∃ Q2 : List V → Hp → Prop, _
    have e8' : h8 = (h2.alloc (.row [.int .u32 0, .int .u16 0, .int .u32 0, .int .u16 0, .int .u64 0, .int .i64 0] 1 false)).set h2.next (.row (splice [.int .u32 0, .int .u16 0, .int .u32 0, .int .u16 0, .int .u64 0, .int .i64 0] 0 [.int .u32 z.1.a, .int .u16 z.1.b, .int .u32 z.1.c, .int .u16 z.1.d, .int .u64 z.2.1, .int .i64 z.2.2]) 1 false) := e8
    rw [← e8']
    clear e8 e8'
    have q18 := q12.trans q8
    have b8 := a.loc fun j hj => q18.same j (al j hj)
    have g8 : h8.get h.next = some (.row [.int .u32 p.a, .int .u16 p.b, .int .u32 p.c, .int .u16 p.d] 1 false) := by rw [q8.same _ (q12.wf _ _ g2)]; exact g2
    refine ⟨fun vs g => match vs with
      | [.int _ x] => g = h8 ∧ x = (if z.2.1 = 0 then (if u < z.2.2 then z.2.2 else u) else u)
      | _ => False, ?_, ?_⟩
    · refine ⟨z.2.1, by rw [Hp.ld_of c8]; rfl, ?_⟩
      cases hs : z.2.1 == 0 with
      | true =>
        refine ⟨z.2.2, by rw [Hp.ld_of c8]; rfl, by trivial, rfl, ?_⟩
        rw [if_pos (by simpa using hs), ltI_eq]
        by_cases hh : u < z.2.2 <;> simp [hh]
      | false => exact ⟨by trivial, rfl, by rw [if_neg (by simpa using hs)]⟩
    rintro bs2 x h8' ⟨rfl, rfl⟩
    rename_i h8
    obtain ⟨q9, o9, h9, e9, hst, a9, u9, w9⟩ := b8.turn q18.wf hj (p, (0, if z.2.1 = 0 then (if u < z.2.2 then z.2.2 else u) else u))
    refine ⟨_, _, _, b8.ld0, p.a, p.b, p.c, p.d, by simp (disch := (first | omega | (simp only [Hp.alloc_next, Hp.set_next] <;> omega) | (simp (disch := (first | omega | (simp only [Hp.alloc_next, Hp.set_next] <;> omega) | fail)) only [Hp.get_set_self, Hp.get_set_ne, Hp.get_alloc_self, Hp.get_alloc_ne, Hp.get_alloc_at, Hp.get_set_at, Hp.set_next, Hp.alloc_next, g8]; done) | fail)) only [Hp.st, Hp.ld, Hp.lda, splice, ble_eq', if_true, if_false, ite_true, ite_false, cond_true, cond_false, decide_true, decide_false, List.length_cons, List.length_nil, List.take_zero, List.take_succ_cons, List.nil_append, List.cons_append, List.append_nil, List.drop_succ_cons, List.drop_zero, List.drop_nil, List.getElem?_cons_succ, List.getElem?_cons_zero, Nat.reduceAdd, Nat.reduceLeDiff, Nat.reduceEqDiff, Nat.zero_add, Nat.add_zero, Nat.le_refl, Nat.zero_le, Nat.succ_ne_self, Nat.mul_one, Int.toNat_natCast, Option.some.injEq, Option.isNone_some, Option.isNone_none, V.int.injEq, V.str.injEq, V.bool.injEq, V.ptr.injEq, V.slc.injEq, V.map.injEq, V.agg.injEq, V.tup.injEq, List.cons.injEq, Prod.mk.injEq, onS, true_and, and_true, and_assoc, exists_and_left, exists_eq_left', forall_eq, heq_eq_eq, reduceCtorEq, Bool.not_true, Bool.not_false, eq_self, not_false_eq_true, Nat.left_eq_add, Nat.add_eq_left, Nat.add_left_cancel_iff, Nat.add_right_cancel_iff, Nat.reduceEqDiff, Nat.one_ne_zero, Hp.get_set_self, Hp.get_set_ne, Hp.get_alloc_self, Hp.get_alloc_ne, Hp.get_alloc_at, Hp.get_set_at, Hp.set_next, Hp.alloc_next, Option.some_ne_none, V.tup.injEq, Option.isSome_some, Option.isSome_none, exists_eq_left, exists_eq, Nat.mul_zero, g8], hb, ?_⟩
    rw [e9]
    refine ⟨h9, by rw [hjn]; exact hst, hK _ _ ?_⟩
    have eF : restR L p u = (0, L.set j (p, (0, if z.2.1 = 0 then (if u < z.2.2 then z.2.2 else u) else u))) := by
      rw [hF]
      by_cases h0 : z.2.1 = 0
      · rw [if_pos h0, if_pos h0, hput]
      · rw [if_neg h0, if_neg h0, if_neg (by rcases hc with hc | hc; exact absurd hc h0; omega), hput]
    rw [eF]
    exact ⟨rfl, _, ⟨_, _, _, _, _, _, a9, rfl⟩, (q18.upd _).trans u9, w9⟩

def keep (now : Int) (z : Pr × (Int × Int)) : Bool := z.2.1 != 0 || ltI now z.2.2

theorem old_spec (hw : h.wf) (rr : RefR r L E h F) (hl : L.length ≤ 1000000) (now : Int) : XCalls Try.prog 21 [.ptr (some (r, 0)), .int .i64 now] h fun v h' => v = .int .i64 ((L.length : Int) - (L.filter (keep now)).length) ∧ ∃ F', RefR r (L.filter (keep now)) E h' F' ∧ Upd h h' F F' ∧ h'.wf := by
  obtain ⟨a1, f1, G1, a2, f2, G2, a, rfl⟩ := rr
  refine XCalls.cps fun K hK => ?_
  apply x21; unfold X21
  have al := a.lt hw
  refine ⟨fun vs g => match vs with
    | [.slc x m f, .int _ i] => ∃ (k : Nat) (G : List Nat), i = k ∧ k ≤ L.length ∧ m = ((L.take k).filter (keep now)).length ∧ Own 6 x ((L.take k).filter (keep now)).length (((L.take k).filter (keep now)).map lRow) g G ∧ Quiet h g ∧ ∀ j ∈ G, h.next ≤ j
    | _ => False, fun vs _ => match vs with
    | [.slc _ _ _, .int _ i] => L.length - i.toNat
    | _ => 0, ⟨by trivial, 0, [], rfl, by omega, rfl, Own.nil _ _, Quiet.refl hw, by simp⟩, ?_⟩
  rintro bs x m f i g ⟨k, G, rfl, hk, rfl, o, q, hG⟩
  have b := a.loc fun j hj => q.same j (al j hj)
  have hfl : ((L.take k).filter (keep now)).length ≤ k := by
    have := List.length_filter_le (keep now) (L.take k)
    rw [List.length_take] at this; omega
  refine ⟨_, _, _, b.ld0, ?_⟩
  cases hi : ltI (↑k) (↑L.length) with
  | false =>
    rw [ltI_eq, decide_eq_false_iff_not] at hi
    obtain rfl : k = L.length := by omega
    rw [List.take_length] at o hfl ⊢
    have hle := q.le
    obtain ⟨g2, hst, a', u', w'⟩ := a.items (f := f) hw o q.wf q.le (fun j hj _ => q.same j hj) (fun j hj => .inr (hG j hj))
    refine ⟨_, _, _, b.ld0, g2, hst, hK _ _ ⟨?_, _, ⟨_, _, _, _, _, _, a', rfl⟩, u', w'⟩⟩
    rw [wr (by omega) (by omega)]
  | true =>
    rw [ltI_eq, decide_eq_true_eq] at hi
    obtain ⟨z, hz⟩ : ∃ z, L[k]? = some z := ⟨_, List.getElem?_eq_getElem (by omega)⟩
    obtain ⟨qq, oo, e, l6, l4, ls, lu⟩ := b.item hz
    have hwk : IntKind.i64.wrap ((k : Int) + 1) = ((k + 1 : Nat) : Int) := by rw [wr (by omega) (by omega)]; rfl
    have ms : L.length - ((k + 1 : Nat) : Int).toNat < L.length - (k : Int).toNat := by omega
    have hnx : (L.take (k + 1)).filter (keep now) = (L.take k).filter (keep now) ++ (if keep now z = true then [z] else []) := by
      rw [List.take_add_one, hz, List.filter_append]
      cases hh : keep now z <;> simp [hh]
    have add : keep now z = true → ∃ (p1 : Option (Nat × Nat)) (n13 : Nat) (f5 : Bool) (h' : Hp), xapp T (g.alloc (.row (lRow z) 6 false)) 54 54 (.slc x ((L.take k).filter (keep now)).length f) (.slc (some (g.next, 0)) 1 true) = some (.slc p1 n13 f5, h') ∧
        ∃ (k' : Nat) (G : List Nat), ((k + 1 : Nat) : Int) = k' ∧ k' ≤ L.length ∧ n13 = ((L.take k').filter (keep now)).length ∧ Own 6 p1 ((L.take k').filter (keep now)).length (((L.take k').filter (keep now)).map lRow) h' G ∧ Quiet h h' ∧ ∀ j ∈ G, h.next ≤ j := by
      intro hkp
      rw [if_pos hkp] at hnx
      obtain ⟨h5, hx, o5, s5, l5, w5⟩ := appN (f := f) (c := lRow z) t54 (by omega) rfl o q.wf (by omega)
      have hle := q.le
      refine ⟨_, _, _, h5, hx, k + 1, [g.next + 1], rfl, by omega, by rw [hnx]; simp, by rw [hnx]; simpa using o5, ⟨fun j hj => by rw [s5 j (by omega) (fun hh => by have := hG j hh; omega)]; exact q.same j hj, by omega, w5⟩, fun j hj => by rw [List.mem_singleton] at hj; omega⟩
    refine ⟨_, _, _, b.ld0, ⟨by omega, hi⟩, ?_⟩
    rw [e]
    refine ⟨z.2.1, by rw [Int.toNat_natCast]; exact ls, ?_⟩
    rw [hwk]
    cases hs : z.2.1 != 0 with
    | true =>
      refine ⟨_, _, _, b.ld0, ⟨by omega, hi⟩, ?_⟩
      rw [e]
      refine ⟨z.1.a, z.1.b, z.1.c, z.1.d, z.2.1, z.2.2, by rw [Int.toNat_natCast]; exact l6, ?_⟩
      rintro h5 rfl
      obtain ⟨p1, n13, f5, h', hx, hI⟩ := add (by unfold keep; rw [hs]; rfl)
      exact ⟨p1, n13, f5, h', hx, by trivial, hI, ms⟩
    | false =>
      refine ⟨_, _, _, b.ld0, ⟨by omega, hi⟩, ?_⟩
      rw [e]
      refine ⟨z.2.2, by rw [Int.toNat_natCast]; exact lu, ?_⟩
      cases hu : ltI now z.2.2 with
      | true =>
        refine ⟨_, _, _, b.ld0, ⟨by omega, hi⟩, ?_⟩
        rw [e]
        refine ⟨z.1.a, z.1.b, z.1.c, z.1.d, z.2.1, z.2.2, by rw [Int.toNat_natCast]; exact l6, ?_⟩
        rintro h5 rfl
        obtain ⟨p1, n13, f5, h', hx, hI⟩ := add (by unfold keep; rw [hs, hu]; rfl)
        exact ⟨p1, n13, f5, h', hx, by trivial, hI, ms⟩
      | false =>
        have hkp : keep now z = false := by unfold keep; rw [hs, hu]; rfl
        rw [hkp, if_neg Bool.false_ne_true, List.append_nil] at hnx
        exact ⟨by trivial, ⟨k + 1, G, rfl, by omega, by rw [hnx], by rw [hnx]; exact o, q, hG⟩, ms⟩
end
end Go.Vex.TRef
namespace Go.Vex.TRef
open Go.Proofs Go.Vex.Tbl

theorem t55 : ∃ ti ei, T 55 = some ti ∧ ti.d = .slc 83 ∧ T 83 = some ei ∧ ei.size = 3 ∧ ei.bytes ≤ 64 ∧ zok ei = true := ⟨_, _, rfl, rfl, rfl, rfl, by decide, rfl⟩

theorem own_ow {sz n : Nat} {x : Option (Nat × Nat)} {rows : List (List V)} {g : Hp} {G : List Nat} (o : Own sz x n rows g G) : Ow sz x n rows g G := by
  obtain ⟨h1, h2, h3⟩ := o
  refine ⟨h1, h2, ?_⟩
  cases x with
  | none => exact h3
  | some p => obtain ⟨q', o'⟩ := p; obtain ⟨h4, fr, h5, h6⟩ := h3; exact ⟨h4, fr, [], h5, by rw [List.append_nil]; exact h6⟩

section
variable {r : Nat} {L : LT} {E : ET} {h g : Hp} {F : List Nat} {a1 : Option (Nat × Nat)} {f1 : Bool} {G1 : List Nat} {a2 : Option (Nat × Nat)} {f2 : Bool} {G2 : List Nat}

/-- the slice of ears is another one -/
theorem RefAt.ears (a : RefAt r L E h a1 f1 G1 a2 f2 G2) (hw : h.wf) {g' : Hp} {E' : ET} {p : Option (Nat × Nat)} {m : Nat} {f : Bool} {G' : List Nat} (hm : m = E'.length) (o : Own 3 p m (E'.map eRow) g' G') (hw' : g'.wf) (hle : h.next ≤ g'.next) (hs : ∀ j, j < h.next → g'.get j = h.get j) (hG : ∀ j ∈ G', h.next ≤ j) :
    ∃ g2, g'.st r 1 [.slc p m f] = some g2 ∧ RefR r L E' g2 (r :: (G1 ++ G')) ∧ Upd h g2 (r :: (G1 ++ G2)) (r :: (G1 ++ G')) ∧ g2.wf := by
  subst hm
  have al := a.lt hw
  have hrl := al r (by simp)
  have gr : g'.get r = some (.row [.slc a1 L.length f1, .slc a2 E.length f2] 1 false) := by rw [hs r hrl]; exact a.row
  have s2 : ∀ j, j ≠ r → (g'.set r (.row (splice [.slc a1 L.length f1, .slc a2 E.length f2] 1 [.slc p E'.length f]) 1 false)).get j = g'.get j := fun j hj => Hp.get_set_ne hj
  have hrG : r ∉ G' := fun hh => by have := hG r hh; omega
  refine ⟨_, Hp.st_of gr (Nat.le_of_ble_eq_true rfl), ⟨a1, f1, G1, p, f, G', ⟨by rw [Hp.get_set_self]; rfl, (Own.rep _ _ _ _).loc _ _ _ (fun j hj => by
    rw [s2 j (fun e => a.n1 (e ▸ hj)), hs j (al j (by simp [hj]))]) a.o1, (Own.rep _ _ _ _).loc _ _ _ (fun j hj => s2 j (fun e => hrG (e ▸ hj))) o, a.n1, hrG, fun j hj hj2 => ?_⟩, rfl⟩, ⟨fun j hj hF => ?_, fun j hj => ?_, hle⟩, hw'.set (by omega)⟩
  · have := al j (by simp [hj]); have := hG j hj2; omega
  · simp only [List.mem_cons, List.mem_append, not_or] at hF
    rw [s2 j hF.1, hs j hj]
  · simp only [List.mem_cons, List.mem_append] at hj ⊢
    rcases hj with h1 | h1 | h1
    · exact .inl (.inl h1)
    · exact .inl (.inr (.inl h1))
    · exact .inr (hG j h1)

/-- a part of the ears, behind a slice of one's own -/
theorem RefAt.cat (b : RefAt r L E g a1 f1 G1 a2 f2 G2) (hw : g.wf) {x : Option (Nat × Nat)} {n : Nat} {fx : Bool} {rows : List (List V)} {G : List Nat} (o : Own 3 x n rows g G) (hn : n ≤ 10000000) (hl : E.length ≤ 1000000) {lo hi : Option Nat} {i j : Nat} (hi' : i = lo.getD 0) (hj' : j = hi.getD E.length) (hij : i ≤ j) (hjn : j ≤ E.length) :
    ∃ a' n' f', xslice T g 55 (.slc a2 E.length f2) (lo.map fun k : Nat => .int .i64 k) (hi.map fun k : Nat => .int .i64 k) none = some (.slc a' n' f') ∧ ∃ p m f h', xapp T g 55 55 (.slc x n fx) (.slc a' n' f') = some (.slc p m f, h') ∧ m = n + (j - i) ∧ ∃ G', Own 3 p m (rows ++ (((E.take j).drop i).map eRow)) h' G' ∧ (∀ y, y < g.next → y ∉ G → h'.get y = g.get y) ∧ (∀ y ∈ G', y ∈ G ∨ g.next ≤ y) ∧ g.next ≤ h'.next ∧ h'.wf := by
  obtain ⟨ti, ei, ht, hd, he, hs, hb, hz⟩ := t55
  obtain ⟨a', f', hx, ho⟩ := (own_ow b.o2).cut (f := f2) (κ := .i64) (κ' := .i64) ht hd he hs hi' hj' hij hjn
  have hud : ∀ k, ti.d ≠ .int k := fun k e => by rw [hd] at e; cases e
  have er : ((E.map eRow).take j).drop i = ((E.take j).drop i).map eRow := by rw [List.map_drop, List.map_take]
  rw [er] at ho
  have hlen : (((E.take j).drop i).map eRow).length = j - i := by simp; omega
  have hmul : (n + (j - i)) * ei.bytes ≤ 11000000 * 64 := Nat.mul_le_mul (by omega) hb
  obtain ⟨p, f, G', h', hx2, o2, u, w⟩ := o.apps (f := fx) hw ht hd ht hud he hs (by omega) hz (ho.news f') (fun q hq => by obtain ⟨z, _, rfl⟩ := List.mem_map.1 hq; rfl) (by rw [hlen]; omega) (by rw [hlen]; omega)
  rw [hlen] at hx2 o2
  exact ⟨a', _, f', hx, p, _, f, h', hx2, rfl, G', o2, u.same, u.new, u.le, w⟩

def ListenR (E : ET) (s : Int) (a : Ad) (c : Int) (E' : ET) : Prop := (s = 0 ∧ c = 2 ∧ E' = E) ∨ (s ≠ 0 ∧ (mget E s).isSome = true ∧ c = 7 ∧ E' = E) ∨
  (s ≠ 0 ∧ mget E s = none ∧ c = 0 ∧ ∃ k, k ≤ E.length ∧ (∀ j z, j < k → E[j]? = some z → z.1 < s) ∧ (∀ z, E[k]? = some z → ¬ z.1 < s) ∧ E' = E.take k ++ (s, a) :: E.drop k)

theorem ge0' {s : Int} {E : ET} : (!ltI (atI (midx s E 0)) 0) = (mget E s).isSome := by
  have h1 := mget_midx s E 0
  have h2 := midx_lt s E 0
  cases hm : midx s E 0 with
  | none => rw [hm] at h1; rw [h1]; rfl
  | some j =>
    rw [hm] at h1
    obtain ⟨_, x, hx, _⟩ := h2 j hm
    rw [h1]
    simp only
    rw [show ltI (atI (some j)) 0 = false by rw [ltI_eq, decide_eq_false_iff_not]; show ¬ ((j : Nat) : Int) < 0; omega, hx]; rfl

theorem listen_spec (hw : h.wf) (rr : RefR r L E h F) (hl : E.length ≤ 1000000) (s : Int) (a : Ad) : XCalls Try.prog 19 [.ptr (some (r, 0)), .int .u64 s, adV a] h fun v h' => ∃ c E' F', v = .int .i64 c ∧ ListenR E s a c E' ∧ RefR r L E' h' F' ∧ Upd h h' F F' ∧ h'.wf := by
  obtain ⟨a1, f1, G1, a2, f2, G2, b0, rfl⟩ := rr
  refine XCalls.cps fun K hK => ?_
  apply x19; unfold X19
  rintro h1 rfl
  have q1 := Quiet.alloc hw (.row [.int .u32 a.ip, .int .u16 a.port] 1 false)
  have g1 : (h.alloc (.row [.int .u32 a.ip, .int .u16 a.port] 1 false)).get h.next = some (.row [.int .u32 a.ip, .int .u16 a.port] 1 false) := Hp.get_alloc_self
  generalize h.alloc (.row [.int .u32 a.ip, .int .u16 a.port] 1 false) = h1 at *
  have al := b0.lt hw
  have b := b0.loc fun j hj => q1.same j (al j hj)
  have hl1 : h.next < h1.next := q1.wf _ _ g1
  have stop : ∀ c, ListenR E s a c E → K (.int .i64 c) h1 := fun c hc => hK _ _ ⟨c, E, _, rfl, hc, ⟨_, _, _, _, _, _, b, rfl⟩, q1.upd _, q1.wf⟩
  cases hs : s == 0 with
  | true => exact stop 2 (.inl ⟨by simpa using hs, rfl, rfl⟩)
  | false =>
  have hs0 : s ≠ 0 := by simpa using hs
  refine (ear_spec q1.wf b hl s).mono ?_
  rintro _ _ ⟨rfl, rfl⟩
  rename_i h1
  refine ⟨_, rfl, ?_⟩
  rw [ge0']
  cases hm : (mget E s).isSome with
  | true => exact stop 7 (.inr (.inl ⟨hs0, hm, rfl, rfl⟩))
  | false =>
  have hno : mget E s = none := by simpa using hm
  refine ⟨fun vs g => match vs with
    | [.int _ i] => g = h1 ∧ ∃ k : Nat, i = k ∧ k ≤ E.length ∧ (∀ j z, j < k → E[j]? = some z → z.1 < s) ∧ (∀ z, E[k]? = some z → ¬ z.1 < s)
    | _ => False, ?_, ?_⟩
  · refine ⟨fun vs g => match vs with
      | [.int _ i] => g = h1 ∧ ∃ k : Nat, i = k ∧ k ≤ E.length ∧ (∀ j z, j < k → E[j]? = some z → z.1 < s)
      | _ => False, fun vs _ => match vs with
      | [.int _ i] => E.length - i.toNat
      | _ => 0, ⟨by trivial, rfl, 0, rfl, by omega, fun j z hj => by omega⟩, ?_⟩
    rintro bs1 i g ⟨hg, k, rfl, hk, hlt⟩
    rw [hg]
    refine ⟨_, _, _, b.ld1, ?_⟩
    cases hi : ltI (↑k) (↑E.length) with
    | false =>
      rw [ltI_eq, decide_eq_false_iff_not] at hi
      exact ⟨by trivial, rfl, k, rfl, hk, hlt, fun z hz => by have := (List.getElem?_eq_some_iff.1 hz).1; omega⟩
    | true =>
      rw [ltI_eq, decide_eq_true_eq] at hi
      obtain ⟨z, hz⟩ : ∃ z, E[k]? = some z := ⟨_, List.getElem?_eq_getElem (by omega)⟩
      obtain ⟨q, o, e, l0, _⟩ := b.ear hz
      refine ⟨_, _, _, b.ld1, ⟨by omega, hi⟩, ?_⟩
      rw [e]
      refine ⟨z.1, by rw [Int.toNat_natCast]; exact l0, ?_⟩
      cases hc : ltI z.1 s with
      | false =>
        rw [ltI_eq, decide_eq_false_iff_not] at hc
        exact ⟨by trivial, rfl, k, rfl, hk, hlt, fun z' hz' => by rw [hz] at hz'; cases hz'; exact hc⟩
      | true =>
        rw [ltI_eq, decide_eq_true_eq] at hc
        have hwk : IntKind.i64.wrap ((k : Int) + 1) = ((k + 1 : Nat) : Int) := by rw [wr (by omega) (by omega)]; rfl
        rw [hwk]
        refine ⟨by trivial, ⟨rfl, k + 1, rfl, by omega, fun j y hj hy => ?_⟩, by show E.length - ((k + 1 : Nat) : Int).toNat < E.length - (k : Int).toNat; omega⟩
        by_cases hjk : j = k
        · rw [hjk, hz] at hy; cases hy; exact hc
        · exact hlt j y (by omega) hy
  rintro bs2 i g ⟨hg, k, rfl, hk, hlt, hge⟩
  rw [hg]
  obtain ⟨s1, s2, s3, hx1, p1, m1, p3, h3, hx2, em1, G3, o3, u3, hG3, l3, w3⟩ := b.cat q1.wf (Own.nil 3 h1) (fx := true) (by omega) hl (lo := none) (hi := some k) (i := 0) (j := k) rfl rfl (by omega) hk
  rw [List.nil_append, List.drop_zero] at o3
  have em1 : m1 = k := by omega
  refine ⟨_, _, _, b.ld1, s1, s2, s3, hx1, p1, m1, p3, h3, hx2, ?_⟩
  have g3 : h3.get h.next = some (.row [.int .u32 a.ip, .int .u16 a.port] 1 false) := by rw [u3 _ hl1 (by simp)]; exact g1
  refine ⟨a.ip, a.port, by simp (disch := (first | omega | (simp only [Hp.alloc_next, Hp.set_next] <;> omega) | (simp (disch := (first | omega | (simp only [Hp.alloc_next, Hp.set_next] <;> omega) | fail)) only [Hp.get_set_self, Hp.get_set_ne, Hp.get_alloc_self, Hp.get_alloc_ne, Hp.get_alloc_at, Hp.get_set_at, Hp.set_next, Hp.alloc_next, g3]; done) | fail)) only [Hp.st, Hp.ld, Hp.lda, splice, ble_eq', if_true, if_false, ite_true, ite_false, cond_true, cond_false, decide_true, decide_false, List.length_cons, List.length_nil, List.take_zero, List.take_succ_cons, List.nil_append, List.cons_append, List.append_nil, List.drop_succ_cons, List.drop_zero, List.drop_nil, List.getElem?_cons_succ, List.getElem?_cons_zero, Nat.reduceAdd, Nat.reduceLeDiff, Nat.reduceEqDiff, Nat.zero_add, Nat.add_zero, Nat.le_refl, Nat.zero_le, Nat.succ_ne_self, Nat.mul_one, Int.toNat_natCast, Option.some.injEq, Option.isNone_some, Option.isNone_none, V.int.injEq, V.str.injEq, V.bool.injEq, V.ptr.injEq, V.slc.injEq, V.map.injEq, V.agg.injEq, V.tup.injEq, List.cons.injEq, Prod.mk.injEq, onS, true_and, and_true, and_assoc, exists_and_left, exists_eq_left', forall_eq, heq_eq_eq, reduceCtorEq, Bool.not_true, Bool.not_false, eq_self, not_false_eq_true, Nat.left_eq_add, Nat.add_eq_left, Nat.add_left_cancel_iff, Nat.add_right_cancel_iff, Nat.reduceEqDiff, Nat.one_ne_zero, Hp.get_set_self, Hp.get_set_ne, Hp.get_alloc_self, Hp.get_alloc_ne, Hp.get_alloc_at, Hp.get_set_at, Hp.set_next, Hp.alloc_next, Option.some_ne_none, V.tup.injEq, Option.isSome_some, Option.isSome_none, exists_eq_left, exists_eq, Nat.mul_zero, g3], ?_⟩
  rintro h4 rfl
  obtain ⟨h5, hx5, o5, u5, l5, w5⟩ := appN (f := p3) (c := eRow (s, a)) t55 (by omega) rfl o3 w3 (by omega)
  refine ⟨_, _, _, h5, hx5, ?_⟩
  have hG3' : ∀ y ∈ G3, h1.next ≤ y := fun y hy => by
    rcases hG3 y hy with h1 | h1
    · simp at h1
    · exact h1
  have u35 : ∀ y, y < h1.next → h5.get y = h1.get y := fun y hy => by rw [u5 y (by omega) (fun hh => by have := hG3' y hh; omega), u3 y hy (by simp)]
  have al1 := b.lt q1.wf
  have b5 := b.loc fun j hj => u35 j (al1 j hj)
  obtain ⟨s4, s5, s6, hx6, p4, m4, p6, h6, hx7, em4, G6, o6, u6, hG6, l6, w6⟩ := b5.cat w5 o5 (fx := false) (by omega) hl (lo := some k) (hi := none) (i := k) (j := E.length) rfl rfl hk (by omega)
  refine ⟨_, _, _, b5.ld1, s4, s5, s6, hx6, p4, m4, p6, h6, hx7, ?_⟩
  have eE : (E.take k).map eRow ++ [eRow (s, a)] ++ ((E.take E.length).drop k).map eRow = (E.take k ++ (s, a) :: E.drop k).map eRow := by
    rw [List.take_length]; simp
  rw [eE] at o6
  have q6l : h.next ≤ h1.next := q1.le
  obtain ⟨g2, hst, r', u', w'⟩ := b0.ears (f := p6) hw (E' := E.take k ++ (s, a) :: E.drop k) (by simp; omega) o6 w6 (by omega) (fun j hj => by
    rw [u6 j (by omega) (fun hh => by rw [List.mem_singleton] at hh; omega), u35 j (by omega), q1.same j hj]) (fun j hj => by
    rcases hG6 j hj with h1 | h1
    · rw [List.mem_singleton] at h1; omega
    · omega)
  exact ⟨g2, hst, hK _ _ ⟨0, _, _, rfl, .inr (.inr ⟨hs0, hno, rfl, k, hk, hlt, hge, rfl⟩), r', u', w'⟩⟩

def deafR (E : ET) (s : Int) : Int × ET := if (mget E s).isSome = true then (1, mdel E s) else (0, E)

theorem deaf_spec (hw : h.wf) (rr : RefR r L E h F) (hl : E.length ≤ 1000000) (s : Int) : XCalls Try.prog 20 [.ptr (some (r, 0)), .int .u64 s] h fun v h' => v = .int .i64 (deafR E s).1 ∧ ∃ F', RefR r L (deafR E s).2 h' F' ∧ Upd h h' F F' ∧ h'.wf := by
  obtain ⟨a1, f1, G1, a2, f2, G2, b, rfl⟩ := rr
  refine XCalls.cps fun K hK => ?_
  apply x20; unfold X20
  have al := b.lt hw
  refine (ear_spec hw b hl s).mono ?_
  rintro _ _ ⟨rfl, rfl⟩
  rename_i h
  refine ⟨_, rfl, ?_⟩
  have hg0 := ge0' (s := s) (E := E)
  cases hm : midx s E 0 with
  | none =>
    have hno : mget E s = none := by rw [mget_midx s E 0, hm]
    refine hK _ _ ?_
    unfold deafR
    rw [if_neg (by rw [hno]; exact Bool.false_ne_true)]
    exact ⟨rfl, _, ⟨_, _, _, _, _, _, b, rfl⟩, Upd.refl _ _, hw⟩
  | some j =>
    obtain ⟨_, z, hz, hzp⟩ := midx_lt s E 0 j hm
    rw [Nat.sub_zero] at hz
    have hj : j < E.length := (List.getElem?_eq_some_iff.1 hz).1
    have hsome : (mget E s).isSome = true := by rw [mget_midx s E 0, hm]; simp only [Nat.sub_zero, hz]; rfl
    have hge : ltI (atI (some j)) 0 = false := by rw [ltI_eq, decide_eq_false_iff_not]; show ¬ ((j : Nat) : Int) < 0; omega
    rw [hge]
    have hdel : mdel E s = E.take j ++ E.drop (j + 1) := by rw [mdel_midx s E 0, hm]; simp [List.eraseIdx_eq_take_drop_succ]
    have hwk : IntKind.i64.wrap (atI (some j) + 1) = ((j + 1 : Nat) : Int) := by show IntKind.i64.wrap (((j : Nat) : Int) + 1) = _; rw [wr (by omega) (by omega)]; rfl
    obtain ⟨s1, s2, s3, hx1, p1, m1, p3, h3, hx2, em1, G3, o3, u3, hG3, l3, w3⟩ := b.cat hw (Own.nil 3 h) (fx := true) (by omega) hl (lo := none) (hi := some j) (i := 0) (j := j) rfl rfl (by omega) (by omega)
    rw [List.nil_append, List.drop_zero] at o3
    refine ⟨_, _, _, b.ld1, s1, s2, s3, hx1, p1, m1, p3, h3, hx2, ?_⟩
    have hG3' : ∀ y ∈ G3, h.next ≤ y := fun y hy => by
      rcases hG3 y hy with h1 | h1
      · simp at h1
      · exact h1
    have b3 := b.loc fun y hy => u3 y (al y hy) (by simp)
    obtain ⟨s4, s5, s6, hx6, p4, m4, p6, h6, hx7, em4, G6, o6, u6, hG6, l6, w6⟩ := b3.cat w3 o3 (fx := p3) (by omega) hl (lo := some (j + 1)) (hi := none) (i := j + 1) (j := E.length) rfl rfl (by omega) (by omega)
    rw [hwk]
    refine ⟨_, _, _, b3.ld1, s4, s5, s6, hx6, p4, m4, p6, h6, hx7, ?_⟩
    have eE : (E.take j).map eRow ++ ((E.take E.length).drop (j + 1)).map eRow = (mdel E s).map eRow := by
      rw [List.take_length, hdel]; simp
    rw [eE] at o6
    obtain ⟨g2, hst, r', u', w'⟩ := b.ears (f := p6) hw (E' := mdel E s) (by rw [hdel]; simp; omega) o6 w6 (by omega) (fun y hy => by
      rw [u6 y (by omega) (fun hh => by have := hG3' y hh; omega), u3 y hy (by simp)]) (fun y hy => by
      rcases hG6 y hy with h1 | h1
      · exact hG3' y h1
      · omega)
    refine ⟨g2, hst, hK _ _ ?_⟩
    unfold deafR
    rw [if_pos hsome]
    exact ⟨rfl, _, r', u', w'⟩
end
end Go.Vex.TRef
namespace Go.Vex.TRef
open Go.Proofs Go.Vex.Tbl

def atL (E : ET) (a : Ad) : List Int := (E.filter fun z => decide (z.2 = a)).map Prod.fst

/-- what the document's Find answers -/
def FindD (L : LT) (E : ET) (p : Pr) (hash now k w : Int) : Prop :=
  (∃ s u, mget L p = some (s, u) ∧ s ≠ 0 ∧ k = 1 ∧ w = s) ∨ (∃ s u, mget L p = some (s, u) ∧ s = 0 ∧ now < u ∧ k = 3 ∧ w = 0) ∨
  ((∀ s u, mget L p = some (s, u) → s = 0 ∧ ¬ now < u) ∧
    (((if atL E ⟨p.a, p.b⟩ = [] then atL E ⟨0, p.b⟩ else atL E ⟨p.a, p.b⟩) = [] ∧ k = 0 ∧ w = 0) ∨
      (k = 2 ∧ (if atL E ⟨p.a, p.b⟩ = [] then atL E ⟨0, p.b⟩ else atL E ⟨p.a, p.b⟩)[(hash * (if atL E ⟨p.a, p.b⟩ = [] then atL E ⟨0, p.b⟩ else atL E ⟨p.a, p.b⟩).length / 4294967296).toNat]? = some w)))

section
variable {r : Nat} {L : LT} {E : ET} {h g : Hp} {F : List Nat} {a1 : Option (Nat × Nat)} {f1 : Bool} {G1 : List Nat} {a2 : Option (Nat × Nat)} {f2 : Bool} {G2 : List Nat}

theorem find_spec (hw : h.wf) (rr : RefR r L E h F) (hl : L.length ≤ 1000000) (hle : E.length ≤ 1000000) (p : Pr) {hash now : Int} (hh : 0 ≤ hash ∧ hash < 4294967296) : XCalls Try.prog 22 [.ptr (some (r, 0)), p.v, .int .u32 hash, .int .i64 now] h fun v h' => Quiet h h' ∧ ∃ k w, v = .tup [.int .u8 k, .int .u64 w] ∧ FindD L E p hash now k w := by
  obtain ⟨a1, f1, G1, a2, f2, G2, a, rfl⟩ := rr
  refine XCalls.cps fun K hK => ?_
  apply x22; unfold X22
  rintro h1 rfl
  have q1 := Quiet.alloc hw (.row [.int .u32 p.a, .int .u16 p.b, .int .u32 p.c, .int .u16 p.d] 1 false)
  have g1 : (h.alloc (.row [.int .u32 p.a, .int .u16 p.b, .int .u32 p.c, .int .u16 p.d] 1 false)).get h.next = some (.row [.int .u32 p.a, .int .u16 p.b, .int .u32 p.c, .int .u16 p.d] 1 false) := Hp.get_alloc_self
  generalize h.alloc (.row [.int .u32 p.a, .int .u16 p.b, .int .u32 p.c, .int .u16 p.d] 1 false) = h1 at *
  have al := a.lt hw
  have b := a.loc fun j hj => q1.same j (al j hj)
  have hl1 : h.next < h1.next := q1.wf _ _ g1
  refine ⟨p.a, p.b, p.c, p.d, by simp (disch := (first | omega | (simp only [Hp.alloc_next, Hp.set_next] <;> omega) | (simp (disch := (first | omega | (simp only [Hp.alloc_next, Hp.set_next] <;> omega) | fail)) only [Hp.get_set_self, Hp.get_set_ne, Hp.get_alloc_self, Hp.get_alloc_ne, Hp.get_alloc_at, Hp.get_set_at, Hp.set_next, Hp.alloc_next, g1]; done) | fail)) only [Hp.st, Hp.ld, Hp.lda, splice, ble_eq', if_true, if_false, ite_true, ite_false, cond_true, cond_false, decide_true, decide_false, List.length_cons, List.length_nil, List.take_zero, List.take_succ_cons, List.nil_append, List.cons_append, List.append_nil, List.drop_succ_cons, List.drop_zero, List.drop_nil, List.getElem?_cons_succ, List.getElem?_cons_zero, Nat.reduceAdd, Nat.reduceLeDiff, Nat.reduceEqDiff, Nat.zero_add, Nat.add_zero, Nat.le_refl, Nat.zero_le, Nat.succ_ne_self, Nat.mul_one, Int.toNat_natCast, Option.some.injEq, Option.isNone_some, Option.isNone_none, V.int.injEq, V.str.injEq, V.bool.injEq, V.ptr.injEq, V.slc.injEq, V.map.injEq, V.agg.injEq, V.tup.injEq, List.cons.injEq, Prod.mk.injEq, onS, true_and, and_true, and_assoc, exists_and_left, exists_eq_left', forall_eq, heq_eq_eq, reduceCtorEq, Bool.not_true, Bool.not_false, eq_self, not_false_eq_true, Nat.left_eq_add, Nat.add_eq_left, Nat.add_left_cancel_iff, Nat.add_right_cancel_iff, Nat.reduceEqDiff, Nat.one_ne_zero, Hp.get_set_self, Hp.get_set_ne, Hp.get_alloc_self, Hp.get_alloc_ne, Hp.get_alloc_at, Hp.get_set_at, Hp.set_next, Hp.alloc_next, Option.some_ne_none, V.tup.injEq, Option.isSome_some, Option.isSome_none, exists_eq_left, exists_eq, Nat.mul_zero, g1], ?_⟩
  refine (at_spec q1.wf b hl p).mono ?_
  rintro _ h2 ⟨rfl, q2⟩
  refine ⟨_, rfl, ?_⟩
  have q12 := q1.trans q2
  have b2 := a.loc fun j hj => q12.same j (al j hj)
  have g2 : h2.get h.next = some (.row [.int .u32 p.a, .int .u16 p.b, .int .u32 p.c, .int .u16 p.d] 1 false) := by rw [q2.same _ hl1]; exact g1
  rw [ge0]
  have done : ∀ {k w : Int} {g' : Hp}, Quiet h g' → FindD L E p hash now k w → K (.tup [.int .u8 k, .int .u64 w]) g' := fun {k w g'} q hf => hK _ _ ⟨q, k, w, rfl, hf⟩
  have hj : ∀ {j : Nat}, midx p L 0 = some j → ∃ z, L[j]? = some z ∧ mget L p = some z.2 ∧ j < L.length := fun {j} hm => by
    obtain ⟨_, z, hz, hzp⟩ := midx_lt p L 0 j hm
    rw [Nat.sub_zero] at hz
    exact ⟨z, hz, by rw [mget_midx p L 0, hm]; simp only [Nat.sub_zero, hz]; rfl, (List.getElem?_eq_some_iff.1 hz).1⟩
  have hno : (mget L p).isSome = true → ∃ j, midx p L 0 = some j := fun hs => by
    cases hm : midx p L 0 with
    | none => rw [mget_midx p L 0, hm] at hs; cases hs
    | some j => exact ⟨j, rfl⟩
  refine ⟨fun vs g => match vs with
    | [] => g = h2 ∧ ∀ s u, mget L p = some (s, u) → s = 0
    | _ => False, ?_, ?_⟩
  · cases hs : (mget L p).isSome with
    | false => exact ⟨by trivial, rfl, fun s u e => by rw [e] at hs; cases hs⟩
    | true =>
      obtain ⟨j, hm⟩ := hno hs
      obtain ⟨z, hz, hg, hjl⟩ := hj hm
      rw [hm]
      have hjn : (atI (some j)).toNat = j := by show ((j : Nat) : Int).toNat = j; omega
      have hb : 0 ≤ atI (some j) ∧ atI (some j) < (L.length : Int) := by show 0 ≤ ((j : Nat) : Int) ∧ ((j : Nat) : Int) < _; omega
      obtain ⟨qq, oo, e, l6, l4, ls, lu⟩ := b2.item hz
      refine ⟨_, _, _, b2.ld0, hb, ?_⟩
      rw [e]
      refine ⟨z.2.1, by rw [hjn]; exact ls, ?_⟩
      cases hc : z.2.1 != 0 with
      | true =>
        refine ⟨_, _, _, b2.ld0, hb, ?_⟩
        rw [e]
        exact ⟨z.2.1, by rw [hjn]; exact ls, done q12 (.inl ⟨z.2.1, z.2.2, hg, by simpa using hc, rfl, rfl⟩)⟩
      | false => exact ⟨by trivial, rfl, fun s u e' => by
        rw [hg] at e'
        have e2 := Option.some.inj e'
        have e3 : z.2.1 = s := by rw [e2]
        rw [← e3]; simpa using hc⟩
  rintro bs1 g ⟨hg0, hz0⟩
  rw [hg0]
  refine ⟨fun vs g => match vs with
    | [] => g = h2 ∧ ∀ s u, mget L p = some (s, u) → s = 0 ∧ ¬ now < u
    | _ => False, ?_, ?_⟩
  · cases hs : (mget L p).isSome with
    | false => exact ⟨by trivial, rfl, fun s u e => by rw [e] at hs; cases hs⟩
    | true =>
      obtain ⟨j, hm⟩ := hno hs
      obtain ⟨z, hz, hg, hjl⟩ := hj hm
      rw [hm]
      have hjn : (atI (some j)).toNat = j := by show ((j : Nat) : Int).toNat = j; omega
      have hb : 0 ≤ atI (some j) ∧ atI (some j) < (L.length : Int) := by show 0 ≤ ((j : Nat) : Int) ∧ ((j : Nat) : Int) < _; omega
      obtain ⟨qq, oo, e, l6, l4, ls, lu⟩ := b2.item hz
      refine ⟨_, _, _, b2.ld0, hb, ?_⟩
      rw [e]
      refine ⟨z.2.2, by rw [hjn]; exact lu, ?_⟩
      cases hc : ltI now z.2.2 with
      | true =>
        rw [ltI_eq, decide_eq_true_eq] at hc
        exact done q12 (.inr (.inl ⟨z.2.1, z.2.2, hg, hz0 z.2.1 z.2.2 hg, hc, rfl, rfl⟩))
      | false =>
        rw [ltI_eq, decide_eq_false_iff_not] at hc
        exact ⟨by trivial, rfl, fun s u e' => ⟨hz0 s u e', by
          rw [hg] at e'
          have e2 := Option.some.inj e'
          have e3 : z.2.2 = u := by rw [e2]
          rw [← e3]; exact hc⟩⟩
  rintro bs2 g ⟨hg1, hz1⟩
  rw [hg1]
  refine ⟨fun vs g => match vs with
    | [.int _ i] => ∃ k : Nat, i = k ∧ k ≤ 2 ∧ Quiet h g ∧ g.get h.next = some (.row [.int .u32 p.a, .int .u16 p.b, .int .u32 p.c, .int .u16 p.d] 1 false) ∧ (1 ≤ k → atL E ⟨p.a, p.b⟩ = []) ∧ (2 ≤ k → atL E ⟨0, p.b⟩ = [])
    | _ => False, fun vs _ => match vs with
    | [.int _ i] => 2 - i.toNat
    | _ => 0, ⟨by trivial, 0, rfl, by omega, q12, g2, by omega, by omega⟩, ?_⟩
  rintro bs3 i h3 ⟨k, rfl, hk, q3, g3, e1, e2⟩
  cases hi : ltI (↑k) 2 with
  | false =>
    rw [ltI_eq, decide_eq_false_iff_not] at hi
    refine done q3 (.inr (.inr ⟨hz1, .inl ⟨?_, rfl, rfl⟩⟩))
    rw [if_pos (e1 (by omega))]; exact e2 (by omega)
  | true =>
  rw [ltI_eq, decide_eq_true_eq] at hi
  have hl3 : h.next < h3.next := q3.wf _ _ g3
  refine ⟨p.a, p.b, by simp (disch := (first | omega | (simp only [Hp.alloc_next, Hp.set_next] <;> omega) | (simp (disch := (first | omega | (simp only [Hp.alloc_next, Hp.set_next] <;> omega) | fail)) only [Hp.get_set_self, Hp.get_set_ne, Hp.get_alloc_self, Hp.get_alloc_ne, Hp.get_alloc_at, Hp.get_set_at, Hp.set_next, Hp.alloc_next, g3]; done) | fail)) only [Hp.st, Hp.ld, Hp.lda, splice, ble_eq', if_true, if_false, ite_true, ite_false, cond_true, cond_false, decide_true, decide_false, List.length_cons, List.length_nil, List.take_zero, List.take_succ_cons, List.nil_append, List.cons_append, List.append_nil, List.drop_succ_cons, List.drop_zero, List.drop_nil, List.getElem?_cons_succ, List.getElem?_cons_zero, Nat.reduceAdd, Nat.reduceLeDiff, Nat.reduceEqDiff, Nat.zero_add, Nat.add_zero, Nat.le_refl, Nat.zero_le, Nat.succ_ne_self, Nat.mul_one, Int.toNat_natCast, Option.some.injEq, Option.isNone_some, Option.isNone_none, V.int.injEq, V.str.injEq, V.bool.injEq, V.ptr.injEq, V.slc.injEq, V.map.injEq, V.agg.injEq, V.tup.injEq, List.cons.injEq, Prod.mk.injEq, onS, true_and, and_true, and_assoc, exists_and_left, exists_eq_left', forall_eq, heq_eq_eq, reduceCtorEq, Bool.not_true, Bool.not_false, eq_self, not_false_eq_true, Nat.left_eq_add, Nat.add_eq_left, Nat.add_left_cancel_iff, Nat.add_right_cancel_iff, Nat.reduceEqDiff, Nat.one_ne_zero, Hp.get_set_self, Hp.get_set_ne, Hp.get_alloc_self, Hp.get_alloc_ne, Hp.get_alloc_at, Hp.get_set_at, Hp.set_next, Hp.alloc_next, Option.some_ne_none, V.tup.injEq, Option.isSome_some, Option.isSome_none, exists_eq_left, exists_eq, Nat.mul_zero, g3], ?_⟩
  rintro h4 rfl
  refine ⟨_, Hp.st_of Hp.get_alloc_self (Nat.le_of_ble_eq_true rfl), ?_⟩
  obtain ⟨h4, e4⟩ : ∃ h4, h4 = (h3.alloc (.row [.int .u32 0, .int .u16 0] 1 false)).set h3.next (.row (splice [.int .u32 0, .int .u16 0] 0 [.int .u32 p.a, .int .u16 p.b]) 1 false) := ⟨_, rfl⟩
  have c4 : h4.get h3.next = some (.row [.int .u32 p.a, .int .u16 p.b] 1 false) := by rw [e4, Hp.get_set_self]; rfl
  have q4 : Quiet h3 h4 := by rw [e4]; exact ⟨fun j hj => by simp (disch := (first | omega | (simp only [Hp.alloc_next, Hp.set_next] <;> omega) | (simp (disch := (first | omega | (simp only [Hp.alloc_next, Hp.set_next] <;> omega) | fail)) only [Hp.get_set_self, Hp.get_set_ne, Hp.get_alloc_self, Hp.get_alloc_ne, Hp.get_alloc_at, Hp.get_set_at, Hp.set_next, Hp.alloc_next]; done) | fail)) only [Hp.st, Hp.ld, Hp.lda, splice, ble_eq', if_true, if_false, ite_true, ite_false, cond_true, cond_false, decide_true, decide_false, List.length_cons, List.length_nil, List.take_zero, List.take_succ_cons, List.nil_append, List.cons_append, List.append_nil, List.drop_succ_cons, List.drop_zero, List.drop_nil, List.getElem?_cons_succ, List.getElem?_cons_zero, Nat.reduceAdd, Nat.reduceLeDiff, Nat.reduceEqDiff, Nat.zero_add, Nat.add_zero, Nat.le_refl, Nat.zero_le, Nat.succ_ne_self, Nat.mul_one, Int.toNat_natCast, Option.some.injEq, Option.isNone_some, Option.isNone_none, V.int.injEq, V.str.injEq, V.bool.injEq, V.ptr.injEq, V.slc.injEq, V.map.injEq, V.agg.injEq, V.tup.injEq, List.cons.injEq, Prod.mk.injEq, onS, true_and, and_true, and_assoc, exists_and_left, exists_eq_left', forall_eq, heq_eq_eq, reduceCtorEq, Bool.not_true, Bool.not_false, eq_self, not_false_eq_true, Nat.left_eq_add, Nat.add_eq_left, Nat.add_left_cancel_iff, Nat.add_right_cancel_iff, Nat.reduceEqDiff, Nat.one_ne_zero, Hp.get_set_self, Hp.get_set_ne, Hp.get_alloc_self, Hp.get_alloc_ne, Hp.get_alloc_at, Hp.get_set_at, Hp.set_next, Hp.alloc_next, Option.some_ne_none, V.tup.injEq, Option.isSome_some, Option.isSome_none, exists_eq_left, exists_eq, Nat.mul_zero], by simp (disch := (first | omega | (simp only [Hp.alloc_next, Hp.set_next] <;> omega) | (simp (disch := (first | omega | (simp only [Hp.alloc_next, Hp.set_next] <;> omega) | fail)) only [Hp.get_set_self, Hp.get_set_ne, Hp.get_alloc_self, Hp.get_alloc_ne, Hp.get_alloc_at, Hp.get_set_at, Hp.set_next, Hp.alloc_next]; done) | fail)) only [Hp.st, Hp.ld, Hp.lda, splice, ble_eq', if_true, if_false, ite_true, ite_false, cond_true, cond_false, decide_true, decide_false, List.length_cons, List.length_nil, List.take_zero, List.take_succ_cons, List.nil_append, List.cons_append, List.append_nil, List.drop_succ_cons, List.drop_zero, List.drop_nil, List.getElem?_cons_succ, List.getElem?_cons_zero, Nat.reduceAdd, Nat.reduceLeDiff, Nat.reduceEqDiff, Nat.zero_add, Nat.add_zero, Nat.le_refl, Nat.zero_le, Nat.succ_ne_self, Nat.mul_one, Int.toNat_natCast, Option.some.injEq, Option.isNone_some, Option.isNone_none, V.int.injEq, V.str.injEq, V.bool.injEq, V.ptr.injEq, V.slc.injEq, V.map.injEq, V.agg.injEq, V.tup.injEq, List.cons.injEq, Prod.mk.injEq, onS, true_and, and_true, and_assoc, exists_and_left, exists_eq_left', forall_eq, heq_eq_eq, reduceCtorEq, Bool.not_true, Bool.not_false, eq_self, not_false_eq_true, Nat.left_eq_add, Nat.add_eq_left, Nat.add_left_cancel_iff, Nat.add_right_cancel_iff, Nat.reduceEqDiff, Nat.one_ne_zero, Hp.get_set_self, Hp.get_set_ne, Hp.get_alloc_self, Hp.get_alloc_ne, Hp.get_alloc_at, Hp.get_set_at, Hp.set_next, Hp.alloc_next, Option.some_ne_none, V.tup.injEq, Option.isSome_some, Option.isSome_none, exists_eq_left, exists_eq, Nat.mul_zero]; omega, q3.wf.alloc.set (Nat.lt_succ_self _)⟩
  rw [← e4]
  clear e4
  have hl4 : h3.next < h4.next := q4.wf _ _ c4
  obtain ⟨w, hwd⟩ : ∃ w : Ad, w = if k = 1 then ⟨0, p.b⟩ else ⟨p.a, p.b⟩ := ⟨_, rfl⟩
  refine ⟨fun vs g => match vs with
    | [] => Quiet h3 g ∧ g.get h3.next = some (.row [.int .u32 w.ip, .int .u16 w.port] 1 false)
    | _ => False, ?_, ?_⟩
  · cases hk1 : ((k : Int) == 1) with
    | true =>
      have hk1' : k = 1 := by
        have : (k : Int) = 1 := by simpa using hk1
        omega
      refine ⟨_, Hp.st_of c4 (Nat.le_of_ble_eq_true rfl), by trivial, ⟨fun j hj => by rw [Hp.get_set_ne (by omega)]; exact q4.same j hj, by show h3.next ≤ h4.next; omega, q4.wf.set hl4⟩, ?_⟩
      rw [Hp.get_set_self, hwd, if_pos hk1']; rfl
    | false =>
      have hk1' : ¬ k = 1 := by
        have : ¬ (k : Int) = 1 := by simpa using hk1
        omega
      exact ⟨by trivial, q4, by rw [hwd, if_neg hk1']; exact c4⟩
  clear c4 q4 hl4
  rintro bs4 h4 ⟨q4, c4⟩
  have hl4 : h3.next < h4.next := q4.wf _ _ c4
  have q34 := q3.trans q4
  refine ⟨fun vs g => match vs with
    | [.slc x m f, .int _ i] => ∃ (k2 : Nat) (G : List Nat), i = k2 ∧ k2 ≤ E.length ∧ m = (atL (E.take k2) w).length ∧ Own 1 x (atL (E.take k2) w).length (Tbl.uRows (atL (E.take k2) w)) g G ∧ Quiet h4 g ∧ ∀ j ∈ G, h4.next ≤ j
    | _ => False, fun vs _ => match vs with
    | [.slc _ _ _, .int _ i] => E.length - i.toNat
    | _ => 0, ⟨by trivial, 0, [], rfl, by omega, rfl, Own.nil _ _, Quiet.refl q4.wf, by simp⟩, ?_⟩
  rintro bs5 x m f i5 g5 ⟨k2, G, rfl, hk2, rfl, o5, q5, hG5⟩
  have q05 := q34.trans q5
  have b5 := a.loc fun j hj => q05.same j (al j hj)
  have hle5 := q5.le
  have hfl : (atL (E.take k2) w).length ≤ k2 := by
    unfold atL
    have := List.length_filter_le (fun z : Int × Ad => decide (z.2 = w)) (E.take k2)
    rw [List.length_take] at this
    rw [List.length_map]; omega
  refine ⟨_, _, _, b5.ld1, ?_⟩
  cases hi5 : ltI (↑k2) (↑E.length) with
  | true =>
    rw [ltI_eq, decide_eq_true_eq] at hi5
    obtain ⟨z, hz⟩ : ∃ z, E[k2]? = some z := ⟨_, List.getElem?_eq_getElem (by omega)⟩
    obtain ⟨q, o, e, l0, l1⟩ := b5.ear hz
    have c5 : g5.get h3.next = some (.row [.int .u32 w.ip, .int .u16 w.port] 1 false) := by rw [q5.same _ hl4]; exact c4
    have hwk : IntKind.i64.wrap ((k2 : Int) + 1) = ((k2 + 1 : Nat) : Int) := by rw [wr (by omega) (by omega)]; rfl
    have ms : E.length - ((k2 + 1 : Nat) : Int).toNat < E.length - (k2 : Int).toNat := by omega
    have hnx : atL (E.take (k2 + 1)) w = atL (E.take k2) w ++ (if z.2 = w then [z.1] else []) := by
      unfold atL
      rw [List.take_add_one, hz, List.filter_append, List.map_append]
      by_cases hh : z.2 = w <;> simp [hh]
    refine ⟨_, _, _, b5.ld1, ⟨by omega, hi5⟩, ?_⟩
    rw [e]
    refine ⟨z.2.ip, z.2.port, by rw [Int.toNat_natCast]; exact l1, w.ip, w.port, by simp (disch := (first | omega | (simp only [Hp.alloc_next, Hp.set_next] <;> omega) | (simp (disch := (first | omega | (simp only [Hp.alloc_next, Hp.set_next] <;> omega) | fail)) only [Hp.get_set_self, Hp.get_set_ne, Hp.get_alloc_self, Hp.get_alloc_ne, Hp.get_alloc_at, Hp.get_set_at, Hp.set_next, Hp.alloc_next, c5]; done) | fail)) only [Hp.st, Hp.ld, Hp.lda, splice, ble_eq', if_true, if_false, ite_true, ite_false, cond_true, cond_false, decide_true, decide_false, List.length_cons, List.length_nil, List.take_zero, List.take_succ_cons, List.nil_append, List.cons_append, List.append_nil, List.drop_succ_cons, List.drop_zero, List.drop_nil, List.getElem?_cons_succ, List.getElem?_cons_zero, Nat.reduceAdd, Nat.reduceLeDiff, Nat.reduceEqDiff, Nat.zero_add, Nat.add_zero, Nat.le_refl, Nat.zero_le, Nat.succ_ne_self, Nat.mul_one, Int.toNat_natCast, Option.some.injEq, Option.isNone_some, Option.isNone_none, V.int.injEq, V.str.injEq, V.bool.injEq, V.ptr.injEq, V.slc.injEq, V.map.injEq, V.agg.injEq, V.tup.injEq, List.cons.injEq, Prod.mk.injEq, onS, true_and, and_true, and_assoc, exists_and_left, exists_eq_left', forall_eq, heq_eq_eq, reduceCtorEq, Bool.not_true, Bool.not_false, eq_self, not_false_eq_true, Nat.left_eq_add, Nat.add_eq_left, Nat.add_left_cancel_iff, Nat.add_right_cancel_iff, Nat.reduceEqDiff, Nat.one_ne_zero, Hp.get_set_self, Hp.get_set_ne, Hp.get_alloc_self, Hp.get_alloc_ne, Hp.get_alloc_at, Hp.get_set_at, Hp.set_next, Hp.alloc_next, Option.some_ne_none, V.tup.injEq, Option.isSome_some, Option.isSome_none, exists_eq_left, exists_eq, Nat.mul_zero, c5], ?_⟩
    have hc : (z.2.ip == w.ip && (z.2.port == w.port && true)) = decide (z.2 = w) := by
      obtain ⟨_, ⟨b1, b2⟩⟩ := z
      obtain ⟨c1, c2⟩ := w
      rw [Bool.eq_iff_iff]; simp
    rw [hc, hwk]
    by_cases he : z.2 = w
    · rw [decide_eq_true he]
      rw [if_pos he] at hnx
      refine ⟨_, _, _, b5.ld1, ⟨by omega, hi5⟩, ?_⟩
      rw [e]
      refine ⟨z.1, by rw [Int.toNat_natCast]; exact l0, ?_⟩
      rintro h6 rfl
      obtain ⟨h7, hx7, o7, s7, l7, w7⟩ := app75 (f := f) (c := .int .u64 z.1) o5 q5.wf (by omega)
      refine ⟨_, _, _, h7, hx7, by trivial, ⟨k2 + 1, [g5.next + 1], rfl, by omega, by rw [hnx]; simp, by rw [hnx]; simpa [Tbl.uRows] using o7, ⟨fun j hj => by rw [s7 j (by omega) (fun hh => by have := hG5 j hh; omega)]; exact q5.same j hj, by omega, w7⟩, fun j hj => by rw [List.mem_singleton] at hj; omega⟩, ms⟩
    · rw [decide_eq_false he]
      rw [if_neg he, List.append_nil] at hnx
      exact ⟨by trivial, ⟨k2 + 1, G, rfl, by omega, by rw [hnx], by rw [hnx]; exact o5, q5, hG5⟩, ms⟩
  | false =>
  rw [ltI_eq, decide_eq_false_iff_not] at hi5
  obtain rfl : k2 = E.length := by omega
  rw [List.take_length] at o5 hfl ⊢
  have g5p : g5.get h.next = some (.row [.int .u32 p.a, .int .u16 p.b, .int .u32 p.c, .int .u16 p.d] 1 false) := by rw [q5.same _ (by omega), q4.same _ hl3]; exact g3
  cases hc5 : ltI 0 ((atL E w).length : Int) with
  | true =>
    rw [ltI_eq, decide_eq_true_eq] at hc5
    obtain ⟨i1, i2, i3⟩ := idx (n := (atL E w).length) hh ⟨by omega, by omega⟩
    have hpos : 0 ≤ hash * ((atL E w).length : Int) / 4294967296 := i2
    have hix : (hash * ((atL E w).length : Int) / 4294967296).toNat < (atL E w).length := by omega
    obtain ⟨y, hy⟩ : ∃ y, (atL E w)[(hash * ((atL E w).length : Int) / 4294967296).toNat]? = some y := ⟨_, List.getElem?_eq_getElem hix⟩
    obtain ⟨q', o', r', rfl, hr', _, hld, _⟩ := o5.ld (k := (hash * ((atL E w).length : Int) / 4294967296).toNat) hix
    have : r' = [.int .u64 y] := by unfold Tbl.uRows at hr'; rw [List.getElem?_map, hy] at hr'; simpa using hr'.symm
    subst this
    rw [i1]
    refine ⟨by trivial, ⟨i2, i3⟩, y, hld 0 (by omega), done q05 (.inr (.inr ⟨hz1, .inr ⟨rfl, ?_⟩⟩))⟩
    have hw0 : (if atL E ⟨p.a, p.b⟩ = [] then atL E ⟨0, p.b⟩ else atL E ⟨p.a, p.b⟩) = atL E w := by
      by_cases hk1 : k = 1
      · rw [hwd, if_pos hk1, if_pos (e1 (by omega))]
      · have hk0 : k = 0 := by omega
        rw [hwd, if_neg hk1] at hc5 ⊢
        rw [if_neg (fun e => by rw [e] at hc5; simp at hc5)]
    rw [hw0]; exact hy
  | false =>
    rw [ltI_eq, decide_eq_false_iff_not] at hc5
    have hem : atL E w = [] := List.length_eq_zero_iff.1 (by omega)
    have hwk : IntKind.i64.wrap ((k : Int) + 1) = ((k + 1 : Nat) : Int) := by rw [wr (by omega) (by omega)]; rfl
    rw [hwk]
    refine ⟨by trivial, ⟨k + 1, rfl, by omega, q05, g5p, fun _ => ?_, fun hk2' => ?_⟩, by show 2 - ((k + 1 : Nat) : Int).toNat < 2 - (k : Int).toNat; omega⟩
    · by_cases hk1 : k = 1
      · exact e1 (by omega)
      · rw [hwd, if_neg hk1] at hem; exact hem
    · have hk1 : k = 1 := by omega
      rw [hwd, if_pos hk1] at hem; exact hem
end
end Go.Vex.TRef
