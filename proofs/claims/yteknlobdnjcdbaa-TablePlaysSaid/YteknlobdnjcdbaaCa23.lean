/-
  Shard, Hash, Text (layer 23).
-/
import Derived.Test.YteknlobdnjcdbaaVexFF
import Derived.Test.YteknlobdnjcdbaaTab23
import Derived.Test.YteknlobdnjcdbaaXa23
set_option linter.unusedVariables false
set_option linter.unusedSimpArgs false
namespace Go.Vex.Tbl
open Go.Proofs

structure Quiet (h h' : Hp) : Prop where
  same : ∀ j, j < h.next → h'.get j = h.get j
  le : h.next ≤ h'.next
  wf : h'.wf

theorem Quiet.refl {h : Hp} (hw : h.wf) : Quiet h h := ⟨fun _ _ => rfl, Nat.le_refl _, hw⟩
theorem Quiet.trans {h h' h'' : Hp} (q : Quiet h h') (r : Quiet h' h'') : Quiet h h'' := ⟨fun j hj => by rw [r.same j (by have := q.le; omega), q.same j hj], by have := q.le; have := r.le; omega, r.wf⟩
theorem Quiet.alloc {h : Hp} (hw : h.wf) (o : O) : Quiet h (h.alloc o) := ⟨fun j hj => Hp.get_alloc_ne (by omega), by simp [Hp.alloc_next], hw.alloc⟩

def bRow (b : UInt8) : List V := [.int .u8 b.toNat]
def bRows (s : List UInt8) : List (List V) := s.map bRow

theorem bRows_flat (s : List UInt8) : (bRows s).flatten = byteV s := by
  induction s with
  | nil => rfl
  | cons b s ih => simp only [bRows, List.map_cons, List.flatten_cons] at ih ⊢; rw [ih]; rfl

theorem bRows_one (s : List UInt8) : ∀ r ∈ bRows s, r.length = 1 := fun r hr => by
  obtain ⟨b, _, rfl⟩ := List.mem_map.1 hr; rfl

theorem bRows_app (s t : List UInt8) : bRows (s ++ t) = bRows s ++ bRows t := by simp [bRows]

theorem bytesOf_byteV (s : List UInt8) : bytesOf (byteV s) = some s := by
  induction s with
  | nil => rfl
  | cons b s ih =>
    simp only [byteV, List.map_cons, bytesOf] at ih ⊢
    rw [ih]
    simp

theorem t84 : ∃ ti ei, T 84 = some ti ∧ ti.d = .slc 5 ∧ T 5 = some ei ∧ ei.size = 1 ∧ ei.bytes = 1 ∧ zok ei = true ∧ ei.d = .int .u8 := ⟨_, _, rfl, rfl, rfl, rfl, rfl, rfl, rfl⟩
theorem t9 : ∃ ui, T 9 = some ui ∧ ui.d = .str := ⟨_, rfl, rfl⟩

theorem own_conv {h : Hp} {F : List Nat} {a : Option (Nat × Nat)} {n : Nat} {f : Bool} {s : List UInt8} (ho : Own 1 a n (bRows s) h F) : xconv T h 84 9 (.slc a n f) = some (.str s) := by
  obtain ⟨ti, ei, ht, hd, he, es, eb, ez, ed⟩ := t84
  obtain ⟨ui, hu, ud⟩ := t9
  obtain ⟨h1, h2, h3⟩ := ho
  have hsl : s.length = n := by simpa [bRows] using h1
  cases a with
  | none =>
    obtain ⟨h3, _⟩ := h3
    have : s = [] := by simpa [bRows] using h3
    subst this
    subst hsl
    simp [xconv, ht, hd, hu, ud, he, ed]
  | some p =>
    obtain ⟨q, o⟩ := p
    obtain ⟨rfl, front, rfl, hg⟩ := h3
    have hcut : cut (front ++ (bRows s).flatten) front.length n = some (byteV s) := by
      unfold cut
      rw [bRows_flat]
      have : Nat.ble (front.length + n) (front ++ byteV s).length = true := by
        rw [ble_eq', decide_eq_true_eq]; simp [byteV]; omega
      rw [this]
      simp only [cond_true, Option.some.injEq]
      rw [List.drop_left, List.take_of_length_le (by simp [byteV]; omega)]
    simp [xconv, ht, hd, hu, ud, he, ed, hg, hcut, bytesOf_byteV]

/-- 'append(b, x..)' -/
theorem app84 {n : Nat} {a : Option (Nat × Nat)} {f : Bool} {s t : List UInt8} {g : Hp} {G : List Nat} {c : List V} (ho : Own 1 a n (bRows s) g G) (hw : g.wf) (hl : n ≤ 100) (ht0 : 1 ≤ t.length ∧ t.length ≤ 100) (hc : c = byteV t) {m : Nat} (hm : m = t.length) :
    ∃ h', xapp T (g.alloc (.row c 1 false)) 84 84 (.slc a n f) (.slc (some (g.next, 0)) m true) = some (.slc (some (g.next + 1, 0)) (n + m) false, h') ∧
      Own 1 (some (g.next + 1, 0)) (n + m) (bRows (s ++ t)) h' [g.next + 1] ∧ (∀ j, j < g.next → j ∉ G → h'.get j = g.get j) ∧ g.next ≤ h'.next ∧ h'.wf := by
  subst hm
  subst hc
  have q := Quiet.alloc hw (.row (byteV t) 1 false)
  have ho' := (Own.rep _ _ _ _).stay hw ho q.same
  obtain ⟨ti, ei, ht, hd, he, es, eb, ez, ed⟩ := t84
  have hud : ∀ k, ti.d ≠ .int k := fun k e => by rw [hd] at e; cases e
  have hbl : (bRows t).length = t.length := by simp [bRows]
  have hn : Own 1 (some (g.next, 0)) t.length (bRows t) (g.alloc (.row (byteV t) 1 false)) [g.next] := ⟨hbl, bRows_one t, rfl, [], rfl, by rw [Hp.get_alloc_self, List.nil_append, bRows_flat]⟩
  have hy := hn.ow.news true
  obtain ⟨h', hx, ho2, u, wf⟩ := ho'.app (f := f) q.wf ht hd ht hud he es (by omega) ez hy (bRows_one t) (by intro e; rw [e] at hbl; simp at hbl; omega) (by rw [hbl, eb]; omega) (by rw [hbl]; omega)
  rw [hbl] at hx ho2
  refine ⟨h', hx, by rw [bRows_app]; exact ho2, fun j hj hG => ?_, ?_, wf⟩
  · rw [u.same j (by simp [Hp.alloc_next]; omega) hG]; exact q.same j hj
  · have := u.le; have := q.le; omega

/-! ### Text -/

def by8 (x : Int) : UInt8 := UInt8.ofNat (IntKind.u8.wrap x).toNat

theorem by8_eq (x : Int) : ((by8 x).toNat : Int) = IntKind.u8.wrap x := by
  unfold by8
  rw [UInt8.toNat_ofNat']
  simp [IntKind.wrap, IntKind.bits, IntKind.signed]; omega

def sh8 (k : IntKind) (x : Int) (n : Int) : Int := x.fdiv (2 ^ min (Int.toNat n) k.bits)

def ipB (a : Int) : List UInt8 := [by8 (sh8 .u32 a 24), by8 (sh8 .u32 a 16), by8 (sh8 .u32 a 8), by8 a]
def ptB (a : Int) : List UInt8 := [by8 (sh8 .u16 a 8), by8 a]
def textOf (a b c d : Int) : List UInt8 := ipB a ++ ipB c ++ ptB b ++ ptB d

theorem ipB_cells (a : Int) : [V.int .u8 (IntKind.u8.wrap (sh8 .u32 a 24)), .int .u8 (IntKind.u8.wrap (sh8 .u32 a 16)), .int .u8 (IntKind.u8.wrap (sh8 .u32 a 8)), .int .u8 (IntKind.u8.wrap a)] = byteV (ipB a) := by
  simp only [byteV, ipB, List.map_cons, List.map_nil, by8_eq]
theorem ptB_cells (a : Int) : [V.int .u8 (IntKind.u8.wrap (sh8 .u16 a 8)), .int .u8 (IntKind.u8.wrap a)] = byteV (ptB a) := by
  simp only [byteV, ptB, List.map_cons, List.map_nil, by8_eq]

def txt1 (a c : Int) : Nat → List UInt8
  | 0 => []
  | 1 => ipB a
  | _ => ipB a ++ ipB c
def txt2 (a b c d : Int) : Nat → List UInt8
  | 0 => ipB a ++ ipB c
  | 1 => ipB a ++ ipB c ++ ptB b
  | _ => textOf a b c d

theorem text_spec {h : Hp} (p0 p1 p2 p3 : Int) : XCalls Try.prog 41 [.agg [.int .u32 p0, .int .u16 p1, .int .u32 p2, .int .u16 p3]] h fun v _ => v = .str (textOf p0 p1 p2 p3) := by
  refine XCalls.ofWf fun hw => ?_
  refine XCalls.cps fun K hK => ?_
  apply x41; unfold X41
  rintro h1 rfl
  have q1 := Quiet.alloc hw (.row [.int .u32 p0, .int .u16 p1, .int .u32 p2, .int .u16 p3] 1 false)
  have g1 : (h.alloc (.row [.int .u32 p0, .int .u16 p1, .int .u32 p2, .int .u16 p3] 1 false)).get h.next = some (.row [.int .u32 p0, .int .u16 p1, .int .u32 p2, .int .u16 p3] 1 false) := Hp.get_alloc_self
  refine ⟨p0, p1, by simp (disch := (first | omega | (simp only [Hp.alloc_next, Hp.set_next] <;> omega) | (simp (disch := (first | omega | (simp only [Hp.alloc_next, Hp.set_next] <;> omega) | fail)) only [Hp.get_set_self, Hp.get_set_ne, Hp.get_alloc_self, Hp.get_alloc_ne, Hp.get_alloc_at, Hp.get_set_at, Hp.set_next, Hp.alloc_next, g1]; done) | fail)) only [Hp.st, Hp.ld, Hp.lda, splice, ble_eq', if_true, if_false, ite_true, ite_false, cond_true, cond_false, decide_true, decide_false, List.length_cons, List.length_nil, List.take_zero, List.take_succ_cons, List.nil_append, List.cons_append, List.append_nil, List.drop_succ_cons, List.drop_zero, List.drop_nil, List.getElem?_cons_succ, List.getElem?_cons_zero, Nat.reduceAdd, Nat.reduceLeDiff, Nat.reduceEqDiff, Nat.zero_add, Nat.add_zero, Nat.le_refl, Nat.zero_le, Nat.succ_ne_self, Nat.mul_one, Int.toNat_natCast, Option.some.injEq, Option.isNone_some, Option.isNone_none, V.int.injEq, V.str.injEq, V.bool.injEq, V.ptr.injEq, V.slc.injEq, V.map.injEq, V.agg.injEq, V.tup.injEq, List.cons.injEq, Prod.mk.injEq, onS, true_and, and_true, and_assoc, exists_and_left, exists_eq_left', forall_eq, heq_eq_eq, reduceCtorEq, Bool.not_true, Bool.not_false, eq_self, not_false_eq_true, Nat.left_eq_add, Nat.add_eq_left, Nat.add_left_cancel_iff, Nat.add_right_cancel_iff, Nat.reduceEqDiff, Nat.one_ne_zero, Hp.get_set_self, Hp.get_set_ne, Hp.get_alloc_self, Hp.get_alloc_ne, Hp.get_alloc_at, Hp.get_set_at, Hp.set_next, Hp.alloc_next, Option.some_ne_none, V.tup.injEq, Option.isSome_some, Option.isSome_none, exists_eq_left, exists_eq, Nat.mul_zero, g1], p2, p3, by simp (disch := (first | omega | (simp only [Hp.alloc_next, Hp.set_next] <;> omega) | (simp (disch := (first | omega | (simp only [Hp.alloc_next, Hp.set_next] <;> omega) | fail)) only [Hp.get_set_self, Hp.get_set_ne, Hp.get_alloc_self, Hp.get_alloc_ne, Hp.get_alloc_at, Hp.get_set_at, Hp.set_next, Hp.alloc_next, g1]; done) | fail)) only [Hp.st, Hp.ld, Hp.lda, splice, ble_eq', if_true, if_false, ite_true, ite_false, cond_true, cond_false, decide_true, decide_false, List.length_cons, List.length_nil, List.take_zero, List.take_succ_cons, List.nil_append, List.cons_append, List.append_nil, List.drop_succ_cons, List.drop_zero, List.drop_nil, List.getElem?_cons_succ, List.getElem?_cons_zero, Nat.reduceAdd, Nat.reduceLeDiff, Nat.reduceEqDiff, Nat.zero_add, Nat.add_zero, Nat.le_refl, Nat.zero_le, Nat.succ_ne_self, Nat.mul_one, Int.toNat_natCast, Option.some.injEq, Option.isNone_some, Option.isNone_none, V.int.injEq, V.str.injEq, V.bool.injEq, V.ptr.injEq, V.slc.injEq, V.map.injEq, V.agg.injEq, V.tup.injEq, List.cons.injEq, Prod.mk.injEq, onS, true_and, and_true, and_assoc, exists_and_left, exists_eq_left', forall_eq, heq_eq_eq, reduceCtorEq, Bool.not_true, Bool.not_false, eq_self, not_false_eq_true, Nat.left_eq_add, Nat.add_eq_left, Nat.add_left_cancel_iff, Nat.add_right_cancel_iff, Nat.reduceEqDiff, Nat.one_ne_zero, Hp.get_set_self, Hp.get_set_ne, Hp.get_alloc_self, Hp.get_alloc_ne, Hp.get_alloc_at, Hp.get_set_at, Hp.set_next, Hp.alloc_next, Option.some_ne_none, V.tup.injEq, Option.isSome_some, Option.isSome_none, exists_eq_left, exists_eq, Nat.mul_zero, g1], fun vs h' => match vs with
    | [.slc a n f, .int _ k] => ∃ (k' : Nat) (G : List Nat), k = k' ∧ k' ≤ 2 ∧ n = 4 * k' ∧ Own 1 a n (bRows (txt1 p0 p2 k')) h' G ∧ (∀ j ∈ G, h.next < j) ∧ h'.get h.next = some (.row [.int .u32 p0, .int .u16 p1, .int .u32 p2, .int .u16 p3] 1 false) ∧ h'.wf ∧ h.next < h'.next
    | _ => False, fun vs _ => match vs with
    | [_, .int _ k] => 2 - k.toNat
    | _ => 0, ⟨by trivial, 0, [], rfl, by omega, rfl, Own.nil _ _, by simp, g1, q1.wf, by simp⟩, ?_⟩
  rintro bs a n f k h2 ⟨k, G, rfl, hk, rfl, o2, hG, g2, w2, n2⟩
  have step : ∀ (p : Int) (pp : Int) (k' : Nat), k' = k + 1 → k < 2 → txt1 p0 p2 k' = txt1 p0 p2 k ++ ipB p → ∀ (h'2 : Hp), h'2 = h2.alloc (.row [.int .u32 0, .int .u16 0] 1 false) → ∃ h'3, h'2.st h2.next 0 [.int .u32 p, .int .u16 pp] = some h'3 ∧ h'3.ld h2.next 0 = some (.int .u32 p) ∧
      ∃ p1' n11 f2 h'5, xapp T (h'3.alloc (.row (byteV (ipB p)) 1 false)) 84 84 (.slc a (4 * k) f) (.slc (some (h'3.next, 0)) 4 true) = some (.slc p1' n11 f2, h'5) ∧
        (∃ (k'' : Nat) (G : List Nat), (IntKind.i64.wrap ((k : Int) + 1)) = k'' ∧ k'' ≤ 2 ∧ n11 = 4 * k'' ∧ Own 1 p1' n11 (bRows (txt1 p0 p2 k'')) h'5 G ∧ (∀ j ∈ G, h.next < j) ∧ h'5.get h.next = some (.row [.int .u32 p0, .int .u16 p1, .int .u32 p2, .int .u16 p3] 1 false) ∧ h'5.wf ∧ h.next < h'5.next) := by
    rintro p pp k' rfl hk2 htx h3 rfl
    refine ⟨_, Hp.st_of Hp.get_alloc_self (Nat.le_of_ble_eq_true rfl), ?_⟩
    obtain ⟨h4, hh4⟩ : ∃ h4, h4 = (h2.alloc (.row [.int .u32 0, .int .u16 0] 1 false)).set h2.next (.row (splice [.int .u32 0, .int .u16 0] 0 [.int .u32 p, .int .u16 pp]) 1 false) := ⟨_, rfl⟩
    have g4 : h4.get h2.next = some (.row [.int .u32 p, .int .u16 pp] 1 false) := by rw [hh4, Hp.get_set_self]; rfl
    have s4 : ∀ j, j < h2.next → h4.get j = h2.get j := fun j hj => by rw [hh4, Hp.get_set_ne (by omega), Hp.get_alloc_ne (by omega)]
    have n4 : h4.next = h2.next + 1 := by rw [hh4]; simp [Hp.alloc_next]
    have w4 : h4.wf := by rw [hh4]; exact w2.alloc.set (Nat.lt_succ_self _)
    rw [← hh4]
    clear hh4
    have o4 := (Own.rep _ _ _ _).stay w2 o2 s4
    obtain ⟨h5, hx, o5, s5, n5, w5⟩ := app84 (f := f) (t := ipB p) (c := byteV (ipB p)) o4 w4 (by omega) (by simp [ipB]) rfl (m := 4) rfl
    refine ⟨by simp (disch := (first | omega | (simp only [Hp.alloc_next, Hp.set_next] <;> omega) | (simp (disch := (first | omega | (simp only [Hp.alloc_next, Hp.set_next] <;> omega) | fail)) only [Hp.get_set_self, Hp.get_set_ne, Hp.get_alloc_self, Hp.get_alloc_ne, Hp.get_alloc_at, Hp.get_set_at, Hp.set_next, Hp.alloc_next, g4]; done) | fail)) only [Hp.st, Hp.ld, Hp.lda, splice, ble_eq', if_true, if_false, ite_true, ite_false, cond_true, cond_false, decide_true, decide_false, List.length_cons, List.length_nil, List.take_zero, List.take_succ_cons, List.nil_append, List.cons_append, List.append_nil, List.drop_succ_cons, List.drop_zero, List.drop_nil, List.getElem?_cons_succ, List.getElem?_cons_zero, Nat.reduceAdd, Nat.reduceLeDiff, Nat.reduceEqDiff, Nat.zero_add, Nat.add_zero, Nat.le_refl, Nat.zero_le, Nat.succ_ne_self, Nat.mul_one, Int.toNat_natCast, Option.some.injEq, Option.isNone_some, Option.isNone_none, V.int.injEq, V.str.injEq, V.bool.injEq, V.ptr.injEq, V.slc.injEq, V.map.injEq, V.agg.injEq, V.tup.injEq, List.cons.injEq, Prod.mk.injEq, onS, true_and, and_true, and_assoc, exists_and_left, exists_eq_left', forall_eq, heq_eq_eq, reduceCtorEq, Bool.not_true, Bool.not_false, eq_self, not_false_eq_true, Nat.left_eq_add, Nat.add_eq_left, Nat.add_left_cancel_iff, Nat.add_right_cancel_iff, Nat.reduceEqDiff, Nat.one_ne_zero, Hp.get_set_self, Hp.get_set_ne, Hp.get_alloc_self, Hp.get_alloc_ne, Hp.get_alloc_at, Hp.get_set_at, Hp.set_next, Hp.alloc_next, Option.some_ne_none, V.tup.injEq, Option.isSome_some, Option.isSome_none, exists_eq_left, exists_eq, Nat.mul_zero, g4], _, _, _, h5, hx, k + 1, [h4.next + 1], by rw [wr (by omega) (by omega)]; rfl, by omega, by omega, by rw [htx]; exact o5, fun j hj => by rw [List.mem_singleton] at hj; omega, ?_, w5, by omega⟩
    rw [s5 _ (by omega) (fun hh => by have := hG _ hh; omega), s4 _ n2]; exact g2
  cases hi : ltI (↑k) 2 with
  | true =>
    rw [ltI_eq, decide_eq_true_eq] at hi
    have hm : ∀ k'' : Int, k'' = (k : Int) + 1 → 2 - k''.toNat < 2 - ((k : Int)).toNat := fun k'' e => by omega
    have hwk : IntKind.i64.wrap ((k : Int) + 1) = (k : Int) + 1 := wr (by omega) (by omega)
    refine ⟨⟨by omega, by omega⟩, ⟨trivial, fun h0 => ?_⟩, fun h0 => ?_⟩
    · have : k = 0 := by omega
      subst this
      rintro h3 rfl
      obtain ⟨h4, hst, l0, p1', n11, f2, h5, hx, rest⟩ := step p0 p1 1 rfl (by omega) rfl _ rfl
      refine ⟨h4, hst, p0, l0, by omega, p0, l0, by omega, p0, l0, by omega, p0, l0, ?_⟩
      rintro h6 rfl
      have hc := ipB_cells p0
      unfold sh8 at hc
      refine ⟨p1', n11, f2, h5, by rw [hc]; exact hx, by trivial, rest, hm _ hwk⟩
    · have : k = 1 := by omega
      subst this
      rintro h3 rfl
      obtain ⟨h4, hst, l0, p1', n11, f2, h5, hx, rest⟩ := step p2 p3 2 rfl (by omega) rfl _ rfl
      refine ⟨h4, hst, p2, l0, by omega, p2, l0, by omega, p2, l0, by omega, p2, l0, ?_⟩
      rintro h6 rfl
      have hc := ipB_cells p2
      unfold sh8 at hc
      refine ⟨p1', n11, f2, h5, by rw [hc]; exact hx, by trivial, rest, hm _ hwk⟩
  | false =>
  rw [ltI_eq, decide_eq_false_iff_not] at hi
  have : k = 2 := by omega
  subst this
  clear step
  refine ⟨p0, p1, by simp (disch := (first | omega | (simp only [Hp.alloc_next, Hp.set_next] <;> omega) | (simp (disch := (first | omega | (simp only [Hp.alloc_next, Hp.set_next] <;> omega) | fail)) only [Hp.get_set_self, Hp.get_set_ne, Hp.get_alloc_self, Hp.get_alloc_ne, Hp.get_alloc_at, Hp.get_set_at, Hp.set_next, Hp.alloc_next, g2]; done) | fail)) only [Hp.st, Hp.ld, Hp.lda, splice, ble_eq', if_true, if_false, ite_true, ite_false, cond_true, cond_false, decide_true, decide_false, List.length_cons, List.length_nil, List.take_zero, List.take_succ_cons, List.nil_append, List.cons_append, List.append_nil, List.drop_succ_cons, List.drop_zero, List.drop_nil, List.getElem?_cons_succ, List.getElem?_cons_zero, Nat.reduceAdd, Nat.reduceLeDiff, Nat.reduceEqDiff, Nat.zero_add, Nat.add_zero, Nat.le_refl, Nat.zero_le, Nat.succ_ne_self, Nat.mul_one, Int.toNat_natCast, Option.some.injEq, Option.isNone_some, Option.isNone_none, V.int.injEq, V.str.injEq, V.bool.injEq, V.ptr.injEq, V.slc.injEq, V.map.injEq, V.agg.injEq, V.tup.injEq, List.cons.injEq, Prod.mk.injEq, onS, true_and, and_true, and_assoc, exists_and_left, exists_eq_left', forall_eq, heq_eq_eq, reduceCtorEq, Bool.not_true, Bool.not_false, eq_self, not_false_eq_true, Nat.left_eq_add, Nat.add_eq_left, Nat.add_left_cancel_iff, Nat.add_right_cancel_iff, Nat.reduceEqDiff, Nat.one_ne_zero, Hp.get_set_self, Hp.get_set_ne, Hp.get_alloc_self, Hp.get_alloc_ne, Hp.get_alloc_at, Hp.get_set_at, Hp.set_next, Hp.alloc_next, Option.some_ne_none, V.tup.injEq, Option.isSome_some, Option.isSome_none, exists_eq_left, exists_eq, Nat.mul_zero, g2], p2, p3, by simp (disch := (first | omega | (simp only [Hp.alloc_next, Hp.set_next] <;> omega) | (simp (disch := (first | omega | (simp only [Hp.alloc_next, Hp.set_next] <;> omega) | fail)) only [Hp.get_set_self, Hp.get_set_ne, Hp.get_alloc_self, Hp.get_alloc_ne, Hp.get_alloc_at, Hp.get_set_at, Hp.set_next, Hp.alloc_next, g2]; done) | fail)) only [Hp.st, Hp.ld, Hp.lda, splice, ble_eq', if_true, if_false, ite_true, ite_false, cond_true, cond_false, decide_true, decide_false, List.length_cons, List.length_nil, List.take_zero, List.take_succ_cons, List.nil_append, List.cons_append, List.append_nil, List.drop_succ_cons, List.drop_zero, List.drop_nil, List.getElem?_cons_succ, List.getElem?_cons_zero, Nat.reduceAdd, Nat.reduceLeDiff, Nat.reduceEqDiff, Nat.zero_add, Nat.add_zero, Nat.le_refl, Nat.zero_le, Nat.succ_ne_self, Nat.mul_one, Int.toNat_natCast, Option.some.injEq, Option.isNone_some, Option.isNone_none, V.int.injEq, V.str.injEq, V.bool.injEq, V.ptr.injEq, V.slc.injEq, V.map.injEq, V.agg.injEq, V.tup.injEq, List.cons.injEq, Prod.mk.injEq, onS, true_and, and_true, and_assoc, exists_and_left, exists_eq_left', forall_eq, heq_eq_eq, reduceCtorEq, Bool.not_true, Bool.not_false, eq_self, not_false_eq_true, Nat.left_eq_add, Nat.add_eq_left, Nat.add_left_cancel_iff, Nat.add_right_cancel_iff, Nat.reduceEqDiff, Nat.one_ne_zero, Hp.get_set_self, Hp.get_set_ne, Hp.get_alloc_self, Hp.get_alloc_ne, Hp.get_alloc_at, Hp.get_set_at, Hp.set_next, Hp.alloc_next, Option.some_ne_none, V.tup.injEq, Option.isSome_some, Option.isSome_none, exists_eq_left, exists_eq, Nat.mul_zero, g2], fun vs h' => match vs with
    | [.slc a n f, .int _ k] => ∃ (k' : Nat) (G : List Nat), k = k' ∧ k' ≤ 2 ∧ n = 8 + 2 * k' ∧ Own 1 a n (bRows (txt2 p0 p1 p2 p3 k')) h' G ∧ h'.wf
    | _ => False, fun vs _ => match vs with
    | [_, .int _ k] => 2 - k.toNat
    | _ => 0, ⟨by trivial, 0, G, rfl, by omega, rfl, o2, w2⟩, ?_⟩
  rintro bs2 a2 n2' f2 k h3 ⟨k, G3, rfl, hk, rfl, o3, w3⟩
  have step : ∀ (p : Int) (pp : Int) (k' : Nat), k' = k + 1 → k < 2 → txt2 p0 p1 p2 p3 k' = txt2 p0 p1 p2 p3 k ++ ptB pp → ∀ (h'2 : Hp), h'2 = h3.alloc (.row [.int .u32 0, .int .u16 0] 1 false) → ∃ h'3, h'2.st h3.next 0 [.int .u32 p, .int .u16 pp] = some h'3 ∧ h'3.ld h3.next 1 = some (.int .u16 pp) ∧
      ∃ p1' n11 f5 h'5, xapp T (h'3.alloc (.row (byteV (ptB pp)) 1 false)) 84 84 (.slc a2 (8 + 2 * k) f2) (.slc (some (h'3.next, 0)) 2 true) = some (.slc p1' n11 f5, h'5) ∧
        (∃ (k'' : Nat) (G : List Nat), (IntKind.i64.wrap ((k : Int) + 1)) = k'' ∧ k'' ≤ 2 ∧ n11 = 8 + 2 * k'' ∧ Own 1 p1' n11 (bRows (txt2 p0 p1 p2 p3 k'')) h'5 G ∧ h'5.wf) := by
    rintro p pp k' rfl hk2 htx h4' rfl
    refine ⟨_, Hp.st_of Hp.get_alloc_self (Nat.le_of_ble_eq_true rfl), ?_⟩
    obtain ⟨h4, hh4⟩ : ∃ h4, h4 = (h3.alloc (.row [.int .u32 0, .int .u16 0] 1 false)).set h3.next (.row (splice [.int .u32 0, .int .u16 0] 0 [.int .u32 p, .int .u16 pp]) 1 false) := ⟨_, rfl⟩
    have g4 : h4.get h3.next = some (.row [.int .u32 p, .int .u16 pp] 1 false) := by rw [hh4, Hp.get_set_self]; rfl
    have s4 : ∀ j, j < h3.next → h4.get j = h3.get j := fun j hj => by rw [hh4, Hp.get_set_ne (by omega), Hp.get_alloc_ne (by omega)]
    have w4 : h4.wf := by rw [hh4]; exact w3.alloc.set (Nat.lt_succ_self _)
    rw [← hh4]
    clear hh4
    have o4 := (Own.rep _ _ _ _).stay w3 o3 s4
    obtain ⟨h5, hx, o5, s5, n5, w5⟩ := app84 (f := f2) (t := ptB pp) (c := byteV (ptB pp)) o4 w4 (by omega) (by simp [ptB]) rfl (m := 2) rfl
    exact ⟨by simp (disch := (first | omega | (simp only [Hp.alloc_next, Hp.set_next] <;> omega) | (simp (disch := (first | omega | (simp only [Hp.alloc_next, Hp.set_next] <;> omega) | fail)) only [Hp.get_set_self, Hp.get_set_ne, Hp.get_alloc_self, Hp.get_alloc_ne, Hp.get_alloc_at, Hp.get_set_at, Hp.set_next, Hp.alloc_next, g4]; done) | fail)) only [Hp.st, Hp.ld, Hp.lda, splice, ble_eq', if_true, if_false, ite_true, ite_false, cond_true, cond_false, decide_true, decide_false, List.length_cons, List.length_nil, List.take_zero, List.take_succ_cons, List.nil_append, List.cons_append, List.append_nil, List.drop_succ_cons, List.drop_zero, List.drop_nil, List.getElem?_cons_succ, List.getElem?_cons_zero, Nat.reduceAdd, Nat.reduceLeDiff, Nat.reduceEqDiff, Nat.zero_add, Nat.add_zero, Nat.le_refl, Nat.zero_le, Nat.succ_ne_self, Nat.mul_one, Int.toNat_natCast, Option.some.injEq, Option.isNone_some, Option.isNone_none, V.int.injEq, V.str.injEq, V.bool.injEq, V.ptr.injEq, V.slc.injEq, V.map.injEq, V.agg.injEq, V.tup.injEq, List.cons.injEq, Prod.mk.injEq, onS, true_and, and_true, and_assoc, exists_and_left, exists_eq_left', forall_eq, heq_eq_eq, reduceCtorEq, Bool.not_true, Bool.not_false, eq_self, not_false_eq_true, Nat.left_eq_add, Nat.add_eq_left, Nat.add_left_cancel_iff, Nat.add_right_cancel_iff, Nat.reduceEqDiff, Nat.one_ne_zero, Hp.get_set_self, Hp.get_set_ne, Hp.get_alloc_self, Hp.get_alloc_ne, Hp.get_alloc_at, Hp.get_set_at, Hp.set_next, Hp.alloc_next, Option.some_ne_none, V.tup.injEq, Option.isSome_some, Option.isSome_none, exists_eq_left, exists_eq, Nat.mul_zero, g4], _, _, _, h5, hx, k + 1, [h4.next + 1], by rw [wr (by omega) (by omega)]; rfl, by omega, by omega, by rw [htx]; exact o5, w5⟩
  cases hi2 : ltI (↑k) 2 with
  | true =>
    rw [ltI_eq, decide_eq_true_eq] at hi2
    have hm : ∀ k'' : Int, k'' = (k : Int) + 1 → 2 - k''.toNat < 2 - ((k : Int)).toNat := fun k'' e => by omega
    have hwk : IntKind.i64.wrap ((k : Int) + 1) = (k : Int) + 1 := wr (by omega) (by omega)
    refine ⟨⟨by omega, by omega⟩, ⟨trivial, fun h0 => ?_⟩, fun h0 => ?_⟩
    · have : k = 0 := by omega
      subst this
      rintro h3' rfl
      obtain ⟨h4, hst, l0, p1', n11, f5, h5, hx, rest⟩ := step p0 p1 1 rfl (by omega) rfl _ rfl
      refine ⟨h4, hst, p1, l0, by omega, p1, l0, ?_⟩
      rintro h6 rfl
      have hc := ptB_cells p1
      unfold sh8 at hc
      refine ⟨p1', n11, f5, h5, by rw [hc]; exact hx, by trivial, rest, hm _ hwk⟩
    · have : k = 1 := by omega
      subst this
      rintro h3' rfl
      obtain ⟨h4, hst, l0, p1', n11, f5, h5, hx, rest⟩ := step p2 p3 2 rfl (by omega) rfl _ rfl
      refine ⟨h4, hst, p3, l0, by omega, p3, l0, ?_⟩
      rintro h6 rfl
      have hc := ptB_cells p3
      unfold sh8 at hc
      refine ⟨p1', n11, f5, h5, by rw [hc]; exact hx, by trivial, rest, hm _ hwk⟩
  | false =>
    rw [ltI_eq, decide_eq_false_iff_not] at hi2
    have : k = 2 := by omega
    subst this
    exact ⟨_, own_conv o3, hK _ _ rfl⟩

theorem text_aside {h : Hp} (p0 p1 p2 p3 : Int) : XCalls Try.prog 41 [.agg [.int .u32 p0, .int .u16 p1, .int .u32 p2, .int .u16 p3]] h fun v h' => v = .str (textOf p0 p1 p2 p3) ∧ h' = h :=
  XCalls.aside rfl (fun v hv => by subst hv; rfl) (text_spec p0 p1 p2 p3)

end Go.Vex.Tbl
