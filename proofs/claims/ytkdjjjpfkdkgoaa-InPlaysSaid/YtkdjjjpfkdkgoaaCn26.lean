/-
  The reference's In (layer 26): joins, Put, Gaps.
-/
import Derived.Test.YtkdjjjpfkdkgoaaVexGG
import Derived.Test.YtkdjjjpfkdkgoaaVexFF
import Derived.Test.YtkdjjjpfkdkgoaaTab26
import Derived.Test.YtkdjjjpfkdkgoaaXa26
import Derived.Test.YtkdjjjpfkdkgoaaCa26
import Derived.Test.YtkdjjjpfkdkgoaaXg26
import Derived.Test.YtkdjjjpfkdkgoaaCg26
import Derived.Test.YtkdjjjpfkdkgoaaCi26
import Derived.Test.YtkdjjjpfkdkgoaaCj26
import Derived.Test.YtkdjjjpfkdkgoaaCk26
import Derived.Test.YtkdjjjpfkdkgoaaCl26
import Derived.Test.YtkdjjjpfkdkgoaaCm26
import Derived.Test.YtkdjjjpfkdkgoaaXj26
set_option linter.unusedVariables false
set_option linter.unusedSimpArgs false
namespace Go.Vex.In
open Go.Proofs

theorem own_conv {h : Hp} {F : List Nat} {a : Option (Nat × Nat)} {n : Nat} {f : Bool} {s : List UInt8} (ho : Own 1 a n (bRows s) h F) : xconv T h 68 9 (.slc a n f) = some (.str s) := by
  obtain ⟨ti, ht, hd⟩ := t68
  obtain ⟨ei, he, ed, es, _⟩ := t5
  obtain ⟨ui, hu, ud⟩ := t9
  obtain ⟨h1, h2, h3⟩ := ho
  have hsl : s.length = n := by simpa [bRows] using h1
  cases a with
  | none =>
    obtain ⟨h3, _⟩ := h3
    have : s = [] := by simpa [bRows] using h3
    subst this
    subst hsl
    simp [xconv, ht, hd, hu, ud, he, ed]
  | some p =>
    obtain ⟨q, o⟩ := p
    obtain ⟨rfl, front, rfl, hg⟩ := h3
    have hcut : cut (front ++ (bRows s).flatten) front.length n = some (byteV s) := by
      unfold cut
      rw [bRows_flat]
      have : Nat.ble (front.length + n) (front ++ byteV s).length = true := by
        rw [ble_eq', decide_eq_true_eq]; simp [byteV]; omega
      rw [this]
      simp only [cond_true, Option.some.injEq]
      rw [List.drop_left, List.take_of_length_le (by simp [byteV]; omega)]
    simp [xconv, ht, hd, hu, ud, he, ed, hg, hcut, bytesOf_byteV]

/-- what is missing is -1 -/
def NG (F : Nat → Int) : Prop := ∀ k, F k < 0 → F k = -1

theorem NG.up {F : Nat → Int} (g : NG F) (p : Nat) (c : UInt8) : NG (up F p c.toNat) := fun k hk => by
  by_cases e : k = p
  · subst e; rw [up_self] at hk; have := u8_lt c; omega
  · rw [up_ne e] at hk ⊢; exact g k hk

theorem NG.stp {F : Nat → Int} (g : NG F) {n : Nat} {W E p : Int} {c : UInt8} {k : Nat} : NG (stp n W E p c.toNat (F, k)).1 := by
  unfold In.stp; split
  · exact g.up _ _
  · exact g

theorem NG.puts {F : Nat → Int} (g : NG F) {n : Nat} {W E far : Int} {text : List UInt8} : ∀ k, NG (puts n W E far F text k).1
  | 0 => g
  | k + 1 => by
    unfold In.puts
    split
    · exact (g.puts k).stp
    · exact g.puts k

def bytes (F : Nat → Int) (q : Nat) : List UInt8 := (List.range q).map fun k => UInt8.ofNat (F k).toNat

theorem bytes_succ (F : Nat → Int) (q : Nat) : bytes F (q + 1) = bytes F q ++ [UInt8.ofNat (F q).toNat] := by unfold bytes; rw [List.range_succ, List.map_append]; rfl

section
variable {r : Nat} {nx : Int} {rd : List UInt8} {F : Nat → Int} {n : Nat} {E : Int} {h : Hp} {FB : List Nat}

theorem rjoins_ex (hw : h.wf) (i : RefI r nx rd F n E h FB) (fi : FI n rd.length F E) (g : NG F) (hn : 1 ≤ n ∧ n ≤ 400) :
    XCalls Try.prog 47 [.ptr (some (r, 0))] h fun v h' => ∃ q FB', (∀ k, k < q → 0 ≤ F k) ∧ F q < 0 ∧ RefI r ((nx + q) % 4294967296) (rd ++ bytes F q) (sh F q) n (if 0 ≤ E then E - q else E) h' FB' ∧ Upd h h' FB FB' ∧ h'.wf := by
  have i0 := i
  obtain ⟨fa, ff, l2, hld⟩ := i.far
  refine XCalls.cps fun K hK => ?_
  apply x47; unfold X47
  refine ⟨fun vs h' => match vs with
    | [.int _ q] => ∃ q' : Nat, q = q' ∧ q' ≤ n ∧ (∀ k, k < q' → 0 ≤ F k) ∧ F q' < 0 ∧ h' = h
    | _ => False, ?_, ?_⟩
  · refine ⟨fun vs h' => match vs with
      | [.int _ q] => ∃ q' : Nat, q = q' ∧ q' ≤ n ∧ (∀ k, k < q' → 0 ≤ F k) ∧ h' = h
      | _ => False, fun vs _ => match vs with
      | [.int _ k] => n - k.toNat
      | _ => 0, ⟨rfl, 0, rfl, Nat.zero_le _, fun k hk => absurd hk (by omega), rfl⟩, ?_⟩
    rintro bs k h1 ⟨k, rfl, hk, lo, rfl⟩
    refine ⟨fa, n, ff, l2, ?_⟩
    cases hi : ltI (↑k) (↑n) with
    | false =>
      rw [ltI_eq, decide_eq_false_iff_not] at hi
      exact ⟨rfl, k, rfl, hk, lo, fi.neg (by omega), rfl⟩
    | true =>
      rw [ltI_eq, decide_eq_true_eq] at hi
      have hk' : k < n := by omega
      have hwk : IntKind.i64.wrap ((k : Int) + 1) = ((k + 1 : Nat) : Int) := by rw [wr (by omega) (by omega)]; rfl
      have tk : ((k : Int)).toNat = k := by omega
      obtain ⟨q, o, hq, l⟩ := hld k hk'
      subst hq
      rw [hwk]
      refine ⟨_, n, ff, l2, ⟨by omega, by omega⟩, F k, by rw [tk]; exact l, ?_⟩
      cases c3 : ltI (F k) 0 with
      | true =>
        rw [ltI_eq, decide_eq_true_eq] at c3
        exact ⟨rfl, k, rfl, hk, lo, c3, rfl⟩
      | false =>
        rw [ltI_eq, decide_eq_false_iff_not] at c3
        exact ⟨rfl, ⟨k + 1, rfl, hk', fun j hj => by
          by_cases e : j = k
          · subst e; omega
          · exact lo j (by omega), rfl⟩, by simp only [Int.toNat_natCast]; omega⟩
  rintro bs q h1 ⟨q, rfl, hq, lo, hFq, rfl⟩
  obtain ⟨a0, f0, G0, e1, e2, e3, e4⟩ := i0
  have hrl := hw.lt e1
  have hqn : q + rd.length ≤ n := by
    by_cases h0 : q = 0
    · have := fi.rle; omega
    · have := fi.lt (lo (q - 1) (by omega)); omega
  refine ⟨fun vs h' => match vs with
    | [.slc a m f, .int _ k] => ∃ (k' : Nat) (G : List Nat), k = k' ∧ k' ≤ q ∧ m = (bytes F k').length ∧ Own 1 a m (bRows (bytes F k')) h' G ∧ (∀ j ∈ G, h1.next ≤ j) ∧ (∀ j, j < h1.next → h'.get j = h1.get j) ∧ h'.wf ∧ h1.next ≤ h'.next
    | _ => False, fun vs _ => match vs with
    | [_, .int _ k] => q - k.toNat
    | _ => 0, ⟨rfl, 0, [], rfl, Nat.zero_le _, rfl, Own.nil _ _, by simp, fun _ _ => rfl, hw, Nat.le_refl _⟩, ?_⟩
  rintro bs2 a2 m2 f2 k h2 ⟨k, G2, rfl, hk, rfl, o2, hG2, s2, w2, n2⟩
  have hbl : (bytes F k).length = k := by simp [bytes]
  have i2 : RefI r nx rd F n E h2 FB := (RefI.rep _ _ _ _ _ _).stay hw i s2
  have g2 : h2.get r = some (.row [.int .u32 nx, .str rd, .slc a0 n f0, .int .i64 E, .int .i64 n] 1 false) := by rw [s2 r hrl]; exact e1
  cases hi : ltI (↑k) (↑q) with
  | true =>
    rw [ltI_eq, decide_eq_true_eq] at hi
    have hk' : k < q := by omega
    have hwk : IntKind.i64.wrap ((k : Int) + 1) = ((k + 1 : Nat) : Int) := by rw [wr (by omega) (by omega)]; rfl
    have tk : ((k : Int)).toNat = k := by omega
    obtain ⟨fa, ff, l2, hld⟩ := i2.far
    obtain ⟨qa, o, hq', l⟩ := hld k (by omega)
    subst hq'
    have hFk := lo k hk'
    have hFk2 := (fi.hi k hFk).2
    have hbt : IntKind.u8.wrap (F k) = ((UInt8.ofNat (F k).toNat).toNat : Int) := by
      rw [UInt8.toNat_ofNat']
      simp [IntKind.wrap, IntKind.bits, IntKind.signed]; omega
    rw [hwk]
    refine ⟨_, n, ff, l2, ⟨by omega, by omega⟩, F k, by rw [tk]; exact l, ?_⟩
    rw [hbt]
    rintro h3 rfl
    obtain ⟨h4, hx, o4, u4, w4⟩ := app_spec (f := f2) (b := UInt8.ofNat (F k).toNat) o2 w2 (by omega)
    have n4 := u4.le
    refine ⟨_, _, _, h4, hx, rfl, ⟨k + 1, [h2.next + 1], rfl, by omega, by rw [bytes_succ]; simp, ?_, fun j hj => by rw [List.mem_singleton] at hj; omega, fun j hj => ?_, w4, by omega⟩, by simp only [Int.toNat_natCast]; omega⟩
    · rw [bytes_succ]; exact o4
    · rw [u4.same j (by omega) (fun hh => by have := hG2 _ hh; omega)]; exact s2 j hj
  | false =>
  rw [ltI_eq, decide_eq_false_iff_not] at hi
  obtain rfl : k = q := by omega
  have G0lt : ∀ j ∈ G0, j < h1.next := fun j hj => (Own.rep _ _ _ _).lt hw e2 hj
  refine ⟨rd, by simp (disch := (first | omega | (simp only [Hp.alloc_next, Hp.set_next] <;> omega) | (simp (disch := (first | omega | (simp only [Hp.alloc_next, Hp.set_next] <;> omega) | fail)) only [Hp.get_set_self, Hp.get_set_ne, Hp.get_alloc_self, Hp.get_alloc_ne, Hp.get_alloc_at, Hp.get_set_at, Hp.set_next, Hp.alloc_next, g2]; done) | fail)) only [Hp.st, Hp.ld, Hp.lda, splice, ble_eq', if_true, if_false, ite_true, ite_false, cond_true, cond_false, decide_true, decide_false, List.length_cons, List.length_nil, List.take_zero, List.take_succ_cons, List.nil_append, List.cons_append, List.append_nil, List.drop_succ_cons, List.drop_zero, List.drop_nil, List.getElem?_cons_succ, List.getElem?_cons_zero, Nat.reduceAdd, Nat.reduceLeDiff, Nat.reduceEqDiff, Nat.zero_add, Nat.add_zero, Nat.le_refl, Nat.zero_le, Nat.succ_ne_self, Nat.mul_one, Int.toNat_natCast, Option.some.injEq, Option.isNone_some, Option.isNone_none, V.int.injEq, V.str.injEq, V.bool.injEq, V.ptr.injEq, V.slc.injEq, V.map.injEq, V.agg.injEq, V.tup.injEq, List.cons.injEq, Prod.mk.injEq, onS, true_and, and_true, and_assoc, exists_and_left, exists_eq_left', forall_eq, heq_eq_eq, reduceCtorEq, Bool.not_true, Bool.not_false, eq_self, not_false_eq_true, Nat.left_eq_add, Nat.add_eq_left, Nat.add_left_cancel_iff, Nat.add_right_cancel_iff, Nat.reduceEqDiff, Nat.one_ne_zero, Hp.get_set_self, Hp.get_set_ne, Hp.get_alloc_self, Hp.get_alloc_ne, Hp.get_alloc_at, Hp.get_set_at, Hp.set_next, Hp.alloc_next, Option.some_ne_none, V.tup.injEq, Option.isSome_some, Option.isSome_none, exists_eq_left, exists_eq, Nat.mul_zero, g2], bytes F k, own_conv o2, by omega, _, Hp.st_of g2 (Nat.le_of_ble_eq_true rfl), ?_⟩
  obtain ⟨h3, hh3⟩ : ∃ h3, h3 = h2.set r (.row (splice [.int .u32 nx, .str rd, .slc a0 n f0, .int .i64 E, .int .i64 n] 1 [.str (rd ++ bytes F k)]) 1 false) := ⟨_, rfl⟩
  have g3 : h3.get r = some (.row [.int .u32 nx, .str (rd ++ bytes F k), .slc a0 n f0, .int .i64 E, .int .i64 n] 1 false) := by rw [hh3, Hp.get_set_self]; rfl
  have s3 : ∀ j, j ≠ r → h3.get j = h2.get j := fun j hj => by rw [hh3]; exact Hp.get_set_ne hj
  have n3 : h3.next = h2.next := by rw [hh3]; rfl
  have w3 : h3.wf := by rw [hh3]; exact w2.set (by omega)
  rw [← hh3]
  clear hh3
  have o3 : Own 1 a0 n (fRows F n) h3 G0 := (Own.rep _ _ _ _).loc _ _ _ (fun j hj => by rw [s3 j (fun e => e4 (e ▸ hj)), s2 j (G0lt j hj)]) e2
  have ha0 : a0 ≠ none := by rintro rfl; obtain ⟨h1, h2, h3⟩ := o3; obtain ⟨h3, _⟩ := h3; rw [h3] at h1; simp at h1; omega
  obtain ⟨ti, ei, ht, hd, he, hs, hby, hz⟩ := t61
  obtain ⟨a6, f6, hx6, o6⟩ := o3.tail (T := T) (t := 61) (f := f0) (κ := .i64) ht hd he hs hq (.inl ha0)
  have hud : ∀ k, ti.d ≠ .int k := fun k e => by rw [hd] at e; cases e
  have hrl2 : ((fRows F n).drop k).length = n - k := by rw [List.length_drop, fRows_len]
  obtain ⟨a7, f7, G7, h4, hx7, o7, u7, w7⟩ := (Own.nil 1 h3).apps (f := true) w3 ht hd ht hud he hs (by omega) hz (o6.ow.news f6) (fun r hr => o6.2.1 r hr) (by
    rw [Nat.zero_add]
    exact Nat.le_trans (Nat.mul_le_mul (by rw [hrl2]; omega : _ ≤ 400) hby) (by omega)) (by rw [hrl2]; omega)
  rw [Nat.zero_add, hrl2] at hx7
  rw [Nat.zero_add, hrl2, List.nil_append] at o7
  have g4 : h4.get r = some (.row [.int .u32 nx, .str (rd ++ bytes F k), .slc a0 n f0, .int .i64 E, .int .i64 n] 1 false) := by rw [u7.same r (by omega) (by simp)]; exact g3
  have hG7 : ∀ j ∈ G7, h3.next ≤ j := fun j hj => by
    rcases u7.new j hj with h | h
    · cases h
    · exact h
  have n7 := u7.le
  have hdrop : (fRows F n).drop k = fRows (sh F k) (n - k) := by
    apply List.ext_getElem?
    intro j
    rw [List.getElem?_drop]
    by_cases hj : j < n - k
    · rw [fRows_get hj, fRows_get (by omega), sh, Nat.add_comm]
    · rw [List.getElem?_eq_none (by rw [fRows_len]; omega), List.getElem?_eq_none (by rw [fRows_len]; omega)]
  rw [hdrop] at o7
  refine ⟨a0, n, f0, by simp (disch := (first | omega | (simp only [Hp.alloc_next, Hp.set_next] <;> omega) | (simp (disch := (first | omega | (simp only [Hp.alloc_next, Hp.set_next] <;> omega) | fail)) only [Hp.get_set_self, Hp.get_set_ne, Hp.get_alloc_self, Hp.get_alloc_ne, Hp.get_alloc_at, Hp.get_set_at, Hp.set_next, Hp.alloc_next, g3]; done) | fail)) only [Hp.st, Hp.ld, Hp.lda, splice, ble_eq', if_true, if_false, ite_true, ite_false, cond_true, cond_false, decide_true, decide_false, List.length_cons, List.length_nil, List.take_zero, List.take_succ_cons, List.nil_append, List.cons_append, List.append_nil, List.drop_succ_cons, List.drop_zero, List.drop_nil, List.getElem?_cons_succ, List.getElem?_cons_zero, Nat.reduceAdd, Nat.reduceLeDiff, Nat.reduceEqDiff, Nat.zero_add, Nat.add_zero, Nat.le_refl, Nat.zero_le, Nat.succ_ne_self, Nat.mul_one, Int.toNat_natCast, Option.some.injEq, Option.isNone_some, Option.isNone_none, V.int.injEq, V.str.injEq, V.bool.injEq, V.ptr.injEq, V.slc.injEq, V.map.injEq, V.agg.injEq, V.tup.injEq, List.cons.injEq, Prod.mk.injEq, onS, true_and, and_true, and_assoc, exists_and_left, exists_eq_left', forall_eq, heq_eq_eq, reduceCtorEq, Bool.not_true, Bool.not_false, eq_self, not_false_eq_true, Nat.left_eq_add, Nat.add_eq_left, Nat.add_left_cancel_iff, Nat.add_right_cancel_iff, Nat.reduceEqDiff, Nat.one_ne_zero, Hp.get_set_self, Hp.get_set_ne, Hp.get_alloc_self, Hp.get_alloc_ne, Hp.get_alloc_at, Hp.get_set_at, Hp.set_next, Hp.alloc_next, Option.some_ne_none, V.tup.injEq, Option.isSome_some, Option.isSome_none, exists_eq_left, exists_eq, Nat.mul_zero, g3], a6, _, f6, hx6, a7, _, f7, h4, hx7, fun vs h' => match vs with
    | [.slc a m f, .int _ j] => ∃ (j' : Nat) (G : List Nat), j = j' ∧ j' ≤ k ∧ m = n - k + j' ∧ Own 1 a m (fRows (sh F k) m) h' G ∧ (∀ x ∈ G, h3.next ≤ x) ∧ (∀ x, x < h3.next → h'.get x = h3.get x) ∧ h'.wf ∧ h3.next ≤ h'.next
    | _ => False, fun vs _ => match vs with
    | [_, .int _ j] => k - j.toNat
    | _ => 0, ⟨rfl, 0, G7, rfl, Nat.zero_le _, rfl, o7, hG7, fun x hx => u7.same x hx (by simp), w7, n7⟩, ?_⟩
  rintro bs3 a8 m8 f8 j h5 ⟨j, G8, rfl, hj, rfl, o8, hG8, s8, w8, n8⟩
  have g5 : h5.get r = some (.row [.int .u32 nx, .str (rd ++ bytes F k), .slc a0 n f0, .int .i64 E, .int .i64 n] 1 false) := by rw [s8 r (by omega)]; exact g3
  cases hi2 : ltI (↑j) (↑k) with
  | true =>
    rw [ltI_eq, decide_eq_true_eq] at hi2
    have hwk : IntKind.i64.wrap ((j : Int) + 1) = ((j + 1 : Nat) : Int) := by rw [wr (by omega) (by omega)]; rfl
    rw [hwk]
    rintro h6 rfl
    obtain ⟨h7, hx, o9, u9, w9⟩ := app61 (f := f8) (c := [.int .i64 (-1)]) o8 w8 (by omega) rfl
    have n9 := u9.le
    refine ⟨_, _, _, h7, hx, rfl, ⟨j + 1, [h5.next + 1], rfl, by omega, by omega, ?_, fun x hx => by rw [List.mem_singleton] at hx; omega, fun x hx => ?_, w9, by omega⟩, by simp only [Int.toNat_natCast]; omega⟩
    · rw [fRows_succ]
      have : sh F k (n - k + j) = -1 := g _ (fi.neg (by omega))
      rw [this]; exact o9
    · rw [u9.same x (by omega) (fun hh => by have := hG8 _ hh; omega)]; exact s8 x hx
  | false =>
  rw [ltI_eq, decide_eq_false_iff_not] at hi2
  obtain rfl : j = k := by omega
  have hnk : n - j + j = n := by omega
  rw [hnk] at o8 ⊢
  refine ⟨_, Hp.st_of g5 (Nat.le_of_ble_eq_true rfl), nx, by simp (disch := (first | omega | (simp only [Hp.alloc_next, Hp.set_next] <;> omega) | (simp (disch := (first | omega | (simp only [Hp.alloc_next, Hp.set_next] <;> omega) | fail)) only [Hp.get_set_self, Hp.get_set_ne, Hp.get_alloc_self, Hp.get_alloc_ne, Hp.get_alloc_at, Hp.get_set_at, Hp.set_next, Hp.alloc_next, g5]; done) | fail)) only [Hp.st, Hp.ld, Hp.lda, splice, ble_eq', if_true, if_false, ite_true, ite_false, cond_true, cond_false, decide_true, decide_false, List.length_cons, List.length_nil, List.take_zero, List.take_succ_cons, List.nil_append, List.cons_append, List.append_nil, List.drop_succ_cons, List.drop_zero, List.drop_nil, List.getElem?_cons_succ, List.getElem?_cons_zero, Nat.reduceAdd, Nat.reduceLeDiff, Nat.reduceEqDiff, Nat.zero_add, Nat.add_zero, Nat.le_refl, Nat.zero_le, Nat.succ_ne_self, Nat.mul_one, Int.toNat_natCast, Option.some.injEq, Option.isNone_some, Option.isNone_none, V.int.injEq, V.str.injEq, V.bool.injEq, V.ptr.injEq, V.slc.injEq, V.map.injEq, V.agg.injEq, V.tup.injEq, List.cons.injEq, Prod.mk.injEq, onS, true_and, and_true, and_assoc, exists_and_left, exists_eq_left', forall_eq, heq_eq_eq, reduceCtorEq, Bool.not_true, Bool.not_false, eq_self, not_false_eq_true, Nat.left_eq_add, Nat.add_eq_left, Nat.add_left_cancel_iff, Nat.add_right_cancel_iff, Nat.reduceEqDiff, Nat.one_ne_zero, Hp.get_set_self, Hp.get_set_ne, Hp.get_alloc_self, Hp.get_alloc_ne, Hp.get_alloc_at, Hp.get_set_at, Hp.set_next, Hp.alloc_next, Option.some_ne_none, V.tup.injEq, Option.isSome_some, Option.isSome_none, exists_eq_left, exists_eq, Nat.mul_zero, g5], _, Hp.st_of Hp.get_set_self (Nat.le_of_ble_eq_true rfl), E, ?_, ?_⟩
  · rw [Hp.ld_of Hp.get_set_self]; rfl
  have hnx2 : IntKind.u32.wrap (nx + IntKind.u32.wrap j) = (nx + j) % 4294967296 := by rw [u32w, u32w]; omega
  have G8lt : ∀ x ∈ G8, x ≠ r := fun x hx e => by have := hG8 x hx; omega
  have post : ∀ {h9 : Hp} {E' : Int}, E' = (if 0 ≤ E then E - j else E) → h9.get r = some (.row [.int .u32 ((nx + j) % 4294967296), .str (rd ++ bytes F j), .slc a8 n f8, .int .i64 E', .int .i64 n] 1 false) → (∀ x, x ≠ r → h9.get x = h5.get x) → h9.next = h5.next → h9.wf → K (.tup []) h9 := fun {h9 E'} hE g9 s9 n9 w9 => by
    refine hK _ _ ⟨j, r :: G8, lo, hFq, ⟨a8, f8, G8, by rw [g9, hE], (Own.rep _ _ _ _).loc _ _ _ (fun x hx => s9 x (G8lt x hx)) o8, rfl, fun hh => G8lt r hh rfl⟩, ⟨fun x hx hxF => ?_, fun x hx => ?_, by omega⟩, w9⟩
    · have hxr : x ≠ r := by rintro rfl; exact hxF (by rw [e3]; simp)
      rw [s9 x hxr, s8 x (by omega), s3 x hxr, s2 x hx]
    · rcases List.mem_cons.1 hx with rfl | hx
      · exact .inl (by rw [e3]; simp)
      · exact .inr (by have := hG8 x hx; omega)
  cases c : ltI E 0 with
  | true =>
    rw [ltI_eq, decide_eq_true_eq] at c
    refine post (E' := E) (by rw [if_neg (by omega)]) ?_ (fun x hx => by rw [Hp.get_set_ne hx, Hp.get_set_ne hx]) rfl ((w8.set (by omega)).set (by simp only [Hp.set_next]; omega))
    rw [Hp.get_set_self, hnx2]; rfl
  | false =>
    rw [ltI_eq, decide_eq_false_iff_not] at c
    have hE := (fi.en (by omega)).1
    refine ⟨E, by rw [Hp.ld_of Hp.get_set_self]; rfl, _, Hp.st_of Hp.get_set_self (Nat.le_of_ble_eq_true rfl), ?_⟩
    refine post (E' := E - j) (by rw [if_pos (by omega)]) ?_ (fun x hx => by rw [Hp.get_set_ne hx, Hp.get_set_ne hx, Hp.get_set_ne hx]) rfl (((w8.set (by omega)).set (by simp only [Hp.set_next]; omega)).set (by simp only [Hp.set_next]; omega))
    rw [Hp.get_set_self, hnx2, wr (x := E - j) (by omega) (by omega)]; rfl

theorem rput_big {at' : Int} {text : List UInt8} (hl : 16384 < text.length) : XCalls Try.prog 37 [.ptr (some (r, 0)), .int .u32 at', .str text] h fun v h' => v = .int .i64 0 ∧ h' = h := by
  apply x37; unfold X37
  have c0 : ltI 16384 (↑text.length) = true := by rw [ltI_eq, decide_eq_true_eq]; omega
  rw [c0]
  exact ⟨rfl, rfl⟩

theorem rput_ex (hw : h.wf) (i : RefI r nx rd F n E h FB) (fi : FI n rd.length F E) (g : NG F) (hn : 1 ≤ n ∧ n ≤ 400) (hnx : 0 ≤ nx ∧ nx < 4294967296) {at' : Int} {text : List UInt8} (ha : 0 ≤ at' ∧ at' < 4294967296) (hl : text.length ≤ 16384) :
    XCalls Try.prog 37 [.ptr (some (r, 0)), .int .u32 at', .str text] h fun v h' => v = .int .i64 (puts n (n - rd.length) E (farOf at' nx) F text text.length).2 ∧ ∃ q FB', (∀ k, k < q → 0 ≤ (puts n (n - rd.length) E (farOf at' nx) F text text.length).1 k) ∧ (puts n (n - rd.length) E (farOf at' nx) F text text.length).1 q < 0 ∧
      RefI r ((nx + q) % 4294967296) (rd ++ bytes (puts n (n - rd.length) E (farOf at' nx) F text text.length).1 q) (sh (puts n (n - rd.length) E (farOf at' nx) F text text.length).1 q) n (if 0 ≤ E then E - q else E) h' FB' ∧ Upd h h' FB FB' ∧ h'.wf := by
  refine XCalls.cps fun K hK => ?_
  obtain ⟨hf0, hf1, hf2, hf3⟩ := far_spec ha hnx
  have hfo : IntKind.i64.wrap (IntKind.i32.wrap (IntKind.u32.wrap (at' - nx))) = farOf at' nx := rfl
  have hrle := fi.rle
  apply x37; unfold X37
  have c0 : ltI 16384 (↑text.length) = false := by rw [ltI_eq, decide_eq_false_iff_not]; omega
  rw [c0]
  refine ⟨nx, i.nx0, ?_⟩
  rw [hfo]
  refine (rwindow_ex i (by omega)).mono ?_
  rintro _ h1 ⟨rfl, rfl⟩
  generalize farOf at' nx = far at *
  refine ⟨_, rfl, fun vs h' => match vs with
    | [.int _ c, .int _ k] => ∃ k' : Nat, k = k' ∧ k' ≤ text.length ∧ c = (puts n (n - rd.length) E far F text k').2 ∧ RefI r nx rd (puts n (n - rd.length) E far F text k').1 n E h' FB ∧ Upd h1 h' FB FB ∧ h'.wf
    | _ => False, fun vs _ => match vs with
    | [_, .int _ k] => text.length - k.toNat
    | _ => 0, ⟨by trivial, 0, rfl, Nat.zero_le _, rfl, i, Upd.refl _ _, hw⟩, ?_⟩
  rintro bs c k h2 ⟨k, rfl, hkl, rfl, i2, u2, w2⟩
  have fi2 : FI n rd.length (puts n (n - rd.length) E far F text k).1 E := fi.puts k
  have g2 : NG (puts n (n - rd.length) E far F text k).1 := g.puts k
  cases hi : ltI (↑k) (↑text.length) with
  | false =>
    rw [ltI_eq, decide_eq_false_iff_not] at hi
    obtain rfl : k = text.length := by omega
    refine (rjoins_ex w2 i2 fi2 g2 hn).mono ?_
    rintro _ h3 ⟨q, FB', lo, hq, i3, u3, w3⟩
    exact hK _ _ ⟨rfl, q, FB', lo, hq, i3, u2.trans u3, w3⟩
  | true =>
  rw [ltI_eq, decide_eq_true_eq] at hi
  have hk : k < text.length := by omega
  have hwk : IntKind.i64.wrap ((k : Int) + 1) = ((k + 1 : Nat) : Int) := by rw [wr (by omega) (by omega)]; rfl
  obtain ⟨c, hb⟩ : ∃ c, text[k]? = some c := ⟨_, List.getElem?_eq_getElem hk⟩
  have hsucc : puts n (n - rd.length) E far F text (k + 1) = stp n (n - rd.length) E (far + k) c.toNat (puts n (n - rd.length) E far F text k) := by
    rw [puts, hb]
  have hcnt := puts_le (n := n) (W := n - rd.length) (E := E) (far := far) (F := F) (text := text) k
  generalize puts n (n - rd.length) E far F text k = S at *
  obtain ⟨Fk, ck⟩ := S
  dsimp only at *
  have hp : IntKind.i64.wrap (far + k) = far + k := wr (by omega) (by omega)
  rw [hp, hwk]
  have skip : ¬ okF n (n - rd.length) E Fk (far + k) c.toNat → ∀ {h3 : Hp}, RefI r nx rd Fk n E h3 FB → Upd h1 h3 FB FB → h3.wf → ∃ k'' : Nat, (((k + 1 : Nat) : Int) = k'') ∧ k'' ≤ text.length ∧ ((ck : Int) = (puts n (n - rd.length) E far F text k'').2) ∧ RefI r nx rd (puts n (n - rd.length) E far F text k'').1 n E h3 FB ∧ Upd h1 h3 FB FB ∧ h3.wf := fun hno h3 i3 u3 w3 => by
    refine ⟨k + 1, rfl, hk, ?_⟩
    rw [hsucc, stp_no (S := (Fk, ck)) hno]
    exact ⟨rfl, i3, u3, w3⟩
  have ms : text.length - (((k + 1 : Nat) : Int)).toNat < text.length - ((k : Int)).toNat := by omega
  refine ⟨fun vs h' => match vs with
    | [] => h' = h2 ∧ 0 ≤ far + k ∧ far + k < n - rd.length ∧ ¬(0 ≤ E ∧ E ≤ far + k) ∧ Fk (far + k).toNat < 0
    | _ => False, ?_, ?_⟩
  · cases c1 : ltI (far + k) 0 with
    | true => rw [ltI_eq, decide_eq_true_eq] at c1; exact ⟨by trivial, skip (fun h => by have := h.1; omega) i2 u2 w2, ms⟩
    | false =>
    rw [ltI_eq, decide_eq_false_iff_not] at c1
    cases c2 : ltI (far + k) ((n : Int) - rd.length) with
    | false => rw [ltI_eq, decide_eq_false_iff_not] at c2; exact ⟨by trivial, skip (fun h => by have := h.2.1; omega) i2 u2 w2, ms⟩
    | true =>
    rw [ltI_eq, decide_eq_true_eq] at c2
    obtain ⟨fa, ff, l2, hld⟩ := i2.far
    obtain ⟨qa, o, hq', l⟩ := hld (far + k).toNat (by omega)
    subst hq'
    refine ⟨E, i2.e3, ?_⟩
    cases c3 : ltI E 0 with
    | true =>
      rw [ltI_eq, decide_eq_true_eq] at c3
      have hE : ¬(0 ≤ E ∧ E ≤ far + k) := by omega
      refine ⟨_, n, ff, l2, ⟨by omega, by omega⟩, Fk (far + k).toNat, l, ?_⟩
      cases c5 : ltI (Fk (far + k).toNat) 0 with
      | false => rw [ltI_eq, decide_eq_false_iff_not] at c5; exact ⟨by trivial, skip (fun h => by have := h.2.2.2.1; omega) i2 u2 w2, ms⟩
      | true => rw [ltI_eq, decide_eq_true_eq] at c5; exact ⟨by trivial, rfl, by omega, by omega, hE, c5⟩
    | false =>
      rw [ltI_eq, decide_eq_false_iff_not] at c3
      refine ⟨E, i2.e3, ?_⟩
      cases c4 : ltI (far + k) E with
      | false => rw [ltI_eq, decide_eq_false_iff_not] at c4; exact ⟨by trivial, skip (fun h => by have := h.2.2.1; omega) i2 u2 w2, ms⟩
      | true =>
        rw [ltI_eq, decide_eq_true_eq] at c4
        have hE : ¬(0 ≤ E ∧ E ≤ far + k) := by omega
        refine ⟨_, n, ff, l2, ⟨by omega, by omega⟩, Fk (far + k).toNat, l, ?_⟩
        cases c5 : ltI (Fk (far + k).toNat) 0 with
        | false => rw [ltI_eq, decide_eq_false_iff_not] at c5; exact ⟨by trivial, skip (fun h => by have := h.2.2.2.1; omega) i2 u2 w2, ms⟩
        | true => rw [ltI_eq, decide_eq_true_eq] at c5; exact ⟨by trivial, rfl, by omega, by omega, hE, c5⟩
  rintro bs2 h3 ⟨rfl, p0, p1, p2, p3⟩
  obtain ⟨a, f, G, e1, e2, e3, e4⟩ := i2
  obtain ⟨p, hpp⟩ : ∃ p : Nat, far + k = (p : Int) := ⟨(far + k).toNat, by omega⟩
  rw [hpp] at p0 p1 p2 p3 skip hsucc ⊢
  have tp : ((p : Int)).toNat = p := by omega
  rw [tp] at p3 ⊢
  have tk : ((k : Int)).toNat = k := by omega
  obtain ⟨qa, qo, h4, rfl, hst, o4, s4, n4, w4⟩ := e2.stN w2 (k := p) (by omega) (row := [.int .i64 c.toNat]) rfl
  rw [fRows_set _ (by omega)] at o4
  have hc := u8_lt c
  have i4 : RefI r nx rd (up Fk p c.toNat) n E h4 FB := ⟨_, f, G, by rw [s4 r e4]; exact e1, o4, e3, e4⟩
  have hst' : h3.st qa (qo + p * 1) [.int .i64 (IntKind.i64.wrap c.toNat)] = some h4 := by rw [wr (by omega) (by omega)]; exact hst
  have u4 : Upd h3 h4 FB FB := ⟨fun x hx hxF => s4 x (fun hh => hxF (by rw [e3]; simp [hh])), fun x hx => .inl hx, by omega⟩
  refine ⟨some (qa, qo), n, f, by simp (disch := (first | omega | (simp only [Hp.alloc_next, Hp.set_next] <;> omega) | (simp (disch := (first | omega | (simp only [Hp.alloc_next, Hp.set_next] <;> omega) | fail)) only [Hp.get_set_self, Hp.get_set_ne, Hp.get_alloc_self, Hp.get_alloc_ne, Hp.get_alloc_at, Hp.get_set_at, Hp.set_next, Hp.alloc_next, e1]; done) | fail)) only [Hp.st, Hp.ld, Hp.lda, splice, ble_eq', if_true, if_false, ite_true, ite_false, cond_true, cond_false, decide_true, decide_false, List.length_cons, List.length_nil, List.take_zero, List.take_succ_cons, List.nil_append, List.cons_append, List.append_nil, List.drop_succ_cons, List.drop_zero, List.drop_nil, List.getElem?_cons_succ, List.getElem?_cons_zero, Nat.reduceAdd, Nat.reduceLeDiff, Nat.reduceEqDiff, Nat.zero_add, Nat.add_zero, Nat.le_refl, Nat.zero_le, Nat.succ_ne_self, Nat.mul_one, Int.toNat_natCast, Option.some.injEq, Option.isNone_some, Option.isNone_none, V.int.injEq, V.str.injEq, V.bool.injEq, V.ptr.injEq, V.slc.injEq, V.map.injEq, V.agg.injEq, V.tup.injEq, List.cons.injEq, Prod.mk.injEq, onS, true_and, and_true, and_assoc, exists_and_left, exists_eq_left', forall_eq, heq_eq_eq, reduceCtorEq, Bool.not_true, Bool.not_false, eq_self, not_false_eq_true, Nat.left_eq_add, Nat.add_eq_left, Nat.add_left_cancel_iff, Nat.add_right_cancel_iff, Nat.reduceEqDiff, Nat.one_ne_zero, Hp.get_set_self, Hp.get_set_ne, Hp.get_alloc_self, Hp.get_alloc_ne, Hp.get_alloc_at, Hp.get_set_at, Hp.set_next, Hp.alloc_next, Option.some_ne_none, V.tup.injEq, Option.isSome_some, Option.isSome_none, exists_eq_left, exists_eq, Nat.mul_zero, e1], by omega, c, by rw [tk]; exact hb, ⟨by omega, by omega⟩, h4, hst', ?_⟩
  refine (rrows_ex i4 (by omega)).mono ?_
  rintro _ h5 ⟨rfl, rfl⟩
  refine ⟨_, rfl, ?_⟩
  obtain ⟨a5, f5, G5, b1, b2, b3, b4⟩ := i4
  cases c5 : ltI 64 ((rn (up Fk p c.toNat) n : Nat) : Int) with
  | true =>
    rw [ltI_eq, decide_eq_true_eq] at c5
    obtain ⟨qb, qo5, h6, rfl, hst6, o6, s6, n6, w6⟩ := b2.stN w4 (k := p) (by omega) (row := [.int .i64 (-1)]) rfl
    rw [fRows_set _ (by omega)] at o6
    have hback : up (up Fk p c.toNat) p (-1) = Fk := by
      funext x
      by_cases e : x = p
      · subst e; rw [up_self, g2 _ p3]
      · rw [up_ne e, up_ne e]
    rw [hback] at o6
    exact ⟨some (qb, qo5), n, f5, by simp (disch := (first | omega | (simp only [Hp.alloc_next, Hp.set_next] <;> omega) | (simp (disch := (first | omega | (simp only [Hp.alloc_next, Hp.set_next] <;> omega) | fail)) only [Hp.get_set_self, Hp.get_set_ne, Hp.get_alloc_self, Hp.get_alloc_ne, Hp.get_alloc_at, Hp.get_set_at, Hp.set_next, Hp.alloc_next, b1]; done) | fail)) only [Hp.st, Hp.ld, Hp.lda, splice, ble_eq', if_true, if_false, ite_true, ite_false, cond_true, cond_false, decide_true, decide_false, List.length_cons, List.length_nil, List.take_zero, List.take_succ_cons, List.nil_append, List.cons_append, List.append_nil, List.drop_succ_cons, List.drop_zero, List.drop_nil, List.getElem?_cons_succ, List.getElem?_cons_zero, Nat.reduceAdd, Nat.reduceLeDiff, Nat.reduceEqDiff, Nat.zero_add, Nat.add_zero, Nat.le_refl, Nat.zero_le, Nat.succ_ne_self, Nat.mul_one, Int.toNat_natCast, Option.some.injEq, Option.isNone_some, Option.isNone_none, V.int.injEq, V.str.injEq, V.bool.injEq, V.ptr.injEq, V.slc.injEq, V.map.injEq, V.agg.injEq, V.tup.injEq, List.cons.injEq, Prod.mk.injEq, onS, true_and, and_true, and_assoc, exists_and_left, exists_eq_left', forall_eq, heq_eq_eq, reduceCtorEq, Bool.not_true, Bool.not_false, eq_self, not_false_eq_true, Nat.left_eq_add, Nat.add_eq_left, Nat.add_left_cancel_iff, Nat.add_right_cancel_iff, Nat.reduceEqDiff, Nat.one_ne_zero, Hp.get_set_self, Hp.get_set_ne, Hp.get_alloc_self, Hp.get_alloc_ne, Hp.get_alloc_at, Hp.get_set_at, Hp.set_next, Hp.alloc_next, Option.some_ne_none, V.tup.injEq, Option.isSome_some, Option.isSome_none, exists_eq_left, exists_eq, Nat.mul_zero, b1], ⟨by omega, by omega⟩, h6, hst6, by trivial, skip (fun h => by have := h.2.2.2.2; rw [tp] at this; omega) ⟨_, f5, G5, by rw [s6 r b4]; exact b1, o6, b3, b4⟩ ((u2.trans u4).trans ⟨fun x hx hxF => s6 x (fun hh => hxF (by rw [b3]; simp [hh])), fun x hx => .inl hx, by omega⟩) w6, ms⟩
  | false =>
    rw [ltI_eq, decide_eq_false_iff_not] at c5
    have hok : okF n (n - rd.length) E Fk p c.toNat := ⟨by omega, p1, p2, by rw [tp]; exact p3, by rw [tp]; omega⟩
    have hs1 : puts n (n - rd.length) E far F text (k + 1) = (up Fk p c.toNat, ck + 1) := by rw [hsucc, stp, if_pos hok, tp]
    have hwc : IntKind.i64.wrap ((ck : Int) + 1) = ((ck + 1 : Nat) : Int) := by rw [wr (by omega) (by omega)]; rfl
    rw [hwc]
    exact ⟨by trivial, ⟨k + 1, rfl, hk, by rw [hs1], by rw [hs1]; exact ⟨a5, f5, G5, b1, b2, b3, b4⟩, u2.trans u4, w4⟩, ms⟩

theorem fills_succ (F : Nat → Int) (k : Nat) : fills F (k + 1) = if 0 ≤ F k then fills F k ++ [k] else fills F k := rfl

theorem rgaps_ex (hw : h.wf) (i : RefI r nx rd F n E h FB) (hn : 1 ≤ n ∧ n ≤ 400) :
    XCalls Try.prog 38 [.ptr (some (r, 0))] h fun v h' => ∃ a f G, v = .slc a (gaps nx (fills F n)).length f ∧ Own 2 a (gaps nx (fills F n)).length (gRows (gaps nx (fills F n))) h' G ∧ Quiet h h' ∧ ∀ j ∈ G, h.next ≤ j := by
  refine XCalls.cps fun K hK => ?_
  apply x38; unfold X38
  refine ⟨fun vs h' => match vs with
    | [.slc a n' f, .int _ k] => ∃ (k' : Nat) (L : List (Int × Int)) (G : List Nat), k = k' ∧ k' ≤ n ∧ L = gaps nx (fills F k') ∧ n' = L.length ∧ Own 2 a n' (gRows L) h' G ∧ (∀ j ∈ G, h.next ≤ j) ∧ (∀ j, j < h.next → h'.get j = h.get j) ∧ h'.wf ∧ h.next ≤ h'.next
    | _ => False, fun vs _ => match vs with
    | [_, .int _ k] => n - k.toNat
    | _ => 0, ⟨rfl, 0, [], [], rfl, Nat.zero_le _, rfl, rfl, Own.nil _ _, by simp, fun _ _ => rfl, hw, Nat.le_refl _⟩, ?_⟩
  rintro bs2 a2 n2' f2 k g5 ⟨k, L, G5, rfl, hk, hLg, rfl, ho5, hG5, s5, w5, n5⟩
  have i5 : RefI r nx rd F n E g5 FB := (RefI.rep _ _ _ _ _ _).stay hw i s5
  obtain ⟨fa, ff, l2, hld⟩ := i5.far
  refine ⟨fa, n, ff, l2, ?_⟩
  cases hi : ltI (↑k) (↑n) with
  | false =>
    rw [ltI_eq, decide_eq_false_iff_not] at hi
    obtain rfl : k = n := by omega
    subst hLg
    exact hK _ _ ⟨a2, f2, G5, rfl, ho5, ⟨s5, n5, w5⟩, hG5⟩
  | true =>
  rw [ltI_eq, decide_eq_true_eq] at hi
  have hk' : k < n := by omega
  have hwk : IntKind.i64.wrap ((k : Int) + 1) = ((k + 1 : Nat) : Int) := by rw [wr (by omega) (by omega)]; rfl
  have tk : ((k : Int)).toNat = k := by omega
  have ms : n - (((k + 1 : Nat) : Int)).toNat < n - ((k : Int)).toNat := by omega
  obtain ⟨qa, qo, hqa, l⟩ := hld k hk'
  subst hqa
  rw [hwk]
  refine ⟨_, n, ff, l2, ⟨by omega, by omega⟩, F k, by rw [tk]; exact l, ?_⟩
  have fs := fills_succ F k
  cases c1 : ltI (F k) 0 with
  | true =>
    rw [ltI_eq, decide_eq_true_eq] at c1
    rw [if_neg (by omega)] at fs
    exact ⟨rfl, ⟨k + 1, L, G5, rfl, hk', by rw [fs]; exact hLg, rfl, ho5, hG5, s5, w5, n5⟩, ms⟩
  | false =>
  rw [ltI_eq, decide_eq_false_iff_not] at c1
  rw [if_pos (by omega)] at fs
  have hx : IntKind.u32.wrap (nx + IntKind.u32.wrap k) = (nx + k) % 4294967296 := by rw [u32w, u32w]; omega
  have hLn : gaps nx (fills F (k + 1)) = gstep nx L k := by rw [fs, gaps_snoc, ← hLg]
  have hLl : L.length ≤ 400 := by rw [hLg]; have := gaps_len nx (fills F k); have := fills_len F k; omega
  have hnw : IntKind.u32.wrap ((nx + k) % 4294967296 + 1) = ((nx + k) % 4294967296 + 1) % 4294967296 := u32w _
  refine ⟨nx, i5.nx0, ?_⟩
  rw [hx, hnw]
  have grow : gstep nx L k = L ++ [((nx + k) % 4294967296, ((nx + k) % 4294967296 + 1) % 4294967296)] → ∃ p1 n9 f4 h'3, xapp T (g5.alloc (.row [.int .u32 ((nx + k) % 4294967296), .int .u32 (((nx + k) % 4294967296 + 1) % 4294967296)] 2 false)) 57 57 (.slc a2 L.length f2) (.slc (some (g5.next, 0)) 1 true) = some (.slc p1 n9 f4, h'3) ∧ [V.ptr (some (r, 0))] = [V.ptr (some (r, 0))] ∧ (∃ (k' : Nat) (L : List (Int × Int)) (G : List Nat), (((k + 1 : Nat) : Int) = k') ∧ k' ≤ n ∧ L = gaps nx (fills F k') ∧ n9 = L.length ∧ Own 2 p1 n9 (gRows L) h'3 G ∧ (∀ j ∈ G, h.next ≤ j) ∧ (∀ j, j < h.next → h'3.get j = h.get j) ∧ h'3.wf ∧ h.next ≤ h'3.next) ∧ n - (((k + 1 : Nat) : Int)).toNat < n - ((k : Int)).toNat := fun hgs => by
    obtain ⟨g8, hx8, ho8, u8, w8⟩ := app57 (f := f2) (c := [.int .u32 ((nx + k) % 4294967296), .int .u32 (((nx + k) % 4294967296 + 1) % 4294967296)]) ho5 w5 (by omega) rfl
    have n8 := u8.le
    refine ⟨_, _, _, g8, hx8, rfl, ⟨k + 1, gstep nx L k, [g5.next + 1], rfl, hk', hLn.symm, ?_, ?_, fun j hj => by rw [List.mem_singleton] at hj; omega, fun j hj => ?_, w8, by omega⟩, ms⟩
    · rw [hgs]; simp
    · rw [hgs, ← gRows_snoc]; exact ho8
    · rw [u8.same j (by omega) (fun h => by have := hG5 j h; omega)]; exact s5 j hj
  cases hlast : L.getLast? with
  | none =>
    have hL0 : L = [] := List.getLast?_eq_none_iff.1 hlast
    subst hL0
    rintro g6 rfl
    exact grow rfl
  | some x =>
    obtain ⟨hl0, hlx⟩ := last_get hlast
    have c1 : ltI 0 (↑L.length) = true := by rw [ltI_eq, decide_eq_true_eq]; omega
    have hw1 : IntKind.i64.wrap ((L.length : Int) - 1) = ((L.length - 1 : Nat) : Int) := by rw [wr (by omega) (by omega)]; omega
    rw [c1, hw1]
    obtain ⟨pa, po, prow, rfl, hprow, _, hpld, _⟩ := ho5.ld (k := L.length - 1) (by omega)
    rw [gRows_get hlx] at hprow
    obtain rfl := (Option.some.inj hprow).symm
    have tl : (((L.length - 1 : Nat) : Int)).toNat = L.length - 1 := by omega
    have hto : g5.ld pa (po + (L.length - 1) * 2 + 1) = some (.int .u32 x.2) := hpld 1 (by omega)
    have hfrom : g5.ld pa (po + (L.length - 1) * 2 + 0) = some (.int .u32 x.1) := hpld 0 (by omega)
    refine ⟨⟨by omega, by omega⟩, x.2, by rw [tl]; exact hto, ?_⟩
    cases hc : x.2 == (nx + k) % 4294967296 with
    | false =>
      rw [beq_eq_false_iff_ne] at hc
      rintro g6 rfl
      exact grow (by unfold gstep; rw [hlast]; simp only; rw [if_neg hc])
    | true =>
      rw [beq_iff_eq] at hc
      have hgs : gstep nx L k = L.set (L.length - 1) (x.1, ((nx + k) % 4294967296 + 1) % 4294967296) := by unfold gstep; rw [hlast]; simp only; rw [if_pos hc]
      obtain ⟨pa', po', g6, hpe, hst, ho6, s6, n6, w6⟩ := ho5.stN w5 (k := L.length - 1) (by omega) (row := [.int .u32 x.1, .int .u32 (((nx + k) % 4294967296 + 1) % 4294967296)]) rfl
      cases hpe
      refine ⟨⟨by omega, by omega⟩, x.1, by rw [tl]; exact hfrom, ⟨by omega, by omega⟩, g6, ?_, rfl, ⟨k + 1, gstep nx L k, G5, rfl, hk', hLn.symm, ?_, ?_, hG5, fun j hj => ?_, w6, by omega⟩, ms⟩
      · rw [tl]; exact hst
      · rw [hgs, List.length_set]
      · rw [hgs, ← gRows_set]; exact ho6
      · rw [s6 j (fun h => by have := hG5 j h; omega)]; exact s5 j hj
end

end Go.Vex.In
