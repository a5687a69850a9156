/-
  The table's contracts (layer 23): at, Find.
-/
import Derived.Test.YteknlobdnjcdbaaVexFF
import Derived.Test.YteknlobdnjcdbaaVexGG
import Derived.Test.YteknlobdnjcdbaaTab23
import Derived.Test.YteknlobdnjcdbaaXa23
import Derived.Test.YteknlobdnjcdbaaCa23
import Derived.Test.YteknlobdnjcdbaaCb23
import Derived.Test.YteknlobdnjcdbaaCc23
import Derived.Test.YteknlobdnjcdbaaXb23
import Derived.Test.YteknlobdnjcdbaaCe23
import Derived.Test.YteknlobdnjcdbaaCf23
import Derived.Test.YteknlobdnjcdbaaXs23
import Derived.Test.YteknlobdnjcdbaaXk23
import Derived.Test.YteknlobdnjcdbaaCsx23
set_option linter.unusedVariables false
set_option linter.unusedSimpArgs false
namespace Go.Vex.Tbl
open Go.Proofs

theorem t75 : ∃ ti ei, T 75 = some ti ∧ ti.d = .slc 34 ∧ T 34 = some ei ∧ ei.size = 1 ∧ ei.bytes ≤ 64 ∧ zok ei = true := ⟨_, _, rfl, rfl, rfl, rfl, by decide, rfl⟩

theorem app75 {n : Nat} {a : Option (Nat × Nat)} {f : Bool} {rows : List (List V)} {g : Hp} {G : List Nat} {c : V} (ho : Own 1 a n rows g G) (hw : g.wf) (hl : n ≤ 100000000) : ∃ h', xapp T (g.alloc (.row [c] 1 false)) 75 75 (.slc a n f) (.slc (some (g.next, 0)) 1 true) = some (.slc (some (g.next + 1, 0)) (n + 1) false, h') ∧
      Own 1 (some (g.next + 1, 0)) (n + 1) (rows ++ [[c]]) h' [g.next + 1] ∧ (∀ j, j < g.next → j ∉ G → h'.get j = g.get j) ∧ g.next ≤ h'.next ∧ h'.wf := by
  obtain ⟨ti, ei, ht, hd, he, hs, hb, hz⟩ := t75
  have q := Quiet.alloc hw (.row [c] 1 false)
  have ho' := (Own.rep _ _ _ _).stay hw ho q.same
  have hcc : (g.alloc (.row [c] 1 false)).get g.next = some (.row [c] 1 false) := Hp.get_alloc_self
  have hud : ∀ k, ti.d ≠ .int k := fun k e => by rw [hd] at e; cases e
  have hmul : (n + 1) * ei.bytes ≤ 100000001 * 64 := Nat.mul_le_mul (by omega) hb
  obtain ⟨h', hx, ho2, u, wf⟩ := ho'.app (f := f) q.wf ht hd ht hud he hs (by omega) hz (news := [[c]]) (xnews_one hcc rfl) (by simp) (by simp) (by simp only [List.length_singleton]; omega) (by simp; omega)
  have hnx : (g.alloc (.row [c] 1 false)).next = g.next + 1 := Hp.alloc_next _ _
  rw [hnx] at hx ho2
  refine ⟨h', hx, ho2, fun j hj hG => ?_, ?_, wf⟩
  · rw [u.same j (by omega) hG]; exact q.same j hj
  · have := u.le; omega

/-- who listens at a place, rising -/
def AtL (S : TS) (a : Ad) (l : List Int) : Prop := l.Pairwise (· < ·) ∧ ∀ s, s ∈ l ↔ mget S.ears s = some a

theorem AtL.uniq {S : TS} {a : Ad} {l l' : List Int} (h : AtL S a l) (h' : AtL S a l') : l = l' := by
  have nd : ∀ {l : List Int}, l.Pairwise (· < ·) → l.Nodup := fun h => h.imp fun h => by omega
  refine List.Perm.eq_of_pairwise (le := fun a b : Int => a < b) (fun a b _ _ h1 h2 => by omega) h.1 h'.1 ?_
  exact (List.perm_ext_iff_of_nodup (nd h.1) (nd h'.1)).2 fun s => by rw [h.2, h'.2]

def uRows (l : List Int) : List (List V) := l.map fun s => [V.int .u64 s]

structure EarsOk (S : TS) : Prop where
  nd : (S.ears.map Prod.fst).Nodup
  len : S.ears.length ≤ 1000000

section
variable {t : Nat} {S : TS} {h : Hp} {F : List Nat}

theorem at_spec (hw : h.wf) (r : TabR t S h F) (eo : EarsOk S) (a : Ad) : XCalls Try.prog 31 [.ptr (some (t, 0)), adV a] h fun v h' => ∃ x f l G, v = .slc x l.length f ∧ AtL S a l ∧ Own 1 x l.length (uRows l) h' G ∧ Quiet h h' ∧ ∀ j ∈ G, h.next ≤ j := by
  refine XCalls.cps fun K hK => ?_
  apply x31; unfold X31
  rintro h1 rfl
  have q1 := Quiet.alloc hw (.row [.int .u32 a.ip, .int .u16 a.port] 1 false)
  have g1 : (h.alloc (.row [.int .u32 a.ip, .int .u16 a.port] 1 false)).get h.next = some (.row [.int .u32 a.ip, .int .u16 a.port] 1 false) := Hp.get_alloc_self
  have r1 := r.quiet hw q1
  have n1 : (h.alloc (.row [.int .u32 a.ip, .int .u16 a.port] 1 false)).next = h.next + 1 := Hp.alloc_next _ _
  generalize h.alloc (.row [.int .u32 a.ip, .int .u16 a.port] 1 false) = h1 at *
  have hFl := r.lt hw
  obtain ⟨e, oe, hld, hge, hmo, heF, het, hback⟩ := r1.ears
  refine ⟨some e, hld, ?_⟩
  refine (Sort.keys_spec (some e)).mono ?_
  rintro _ h2 ⟨rfl, rfl⟩
  have q2 := Quiet.alloc q1.wf (.row [.map (some e)] 1 false)
  have g2 : (h1.alloc (.row [.map (some e)] 1 false)).get h1.next = some (.row [.map (some e)] 1 false) := Hp.get_alloc_self
  have hel := hFl e heF
  have hge2 : (h1.alloc (.row [.map (some e)] 1 false)).get e = some oe := by rw [q2.same e (by omega)]; exact hge
  refine ⟨_, rfl, ?_⟩
  refine (Sort.sorted_spec q2.wf g2 (hmo.is hge2) (by have := eo.len; omega)).mono ?_
  rintro _ h3 ⟨x1, f1, ks, G1, rfl, hperm, hris, ho3, s3, n3, w3, hG1⟩
  have q3 : Quiet h h3 := (q1.trans q2).trans ⟨s3, n3, w3⟩
  have hl12 := q2.le
  have hkl : ks.length = S.ears.length := by have := hperm.length_eq; simpa using this
  have hnd : ks.Nodup := hperm.nodup_iff.2 eo.nd
  have hks : List.Pairwise (α := Int) (fun x y => x < y) ks := by
    have h1 : List.Pairwise (α := Int) (fun x y => x ≤ y) ks := List.Pairwise.imp (S := fun x y : Int => x ≤ y) (fun {x y : Int} hxy => by simp only [Sort.lt, ltI_eq, decide_eq_false_iff_not] at hxy; exact Int.not_lt.1 hxy) hris
    have h2 : List.Pairwise (α := Int) (fun x y => x ≠ y) ks := hnd
    exact (h1.and h2).imp (fun {x y : Int} h => by have := h.1; have := h.2; omega)
  have hmem : ∀ s, s ∈ ks ↔ (mget S.ears s).isSome = true := fun s => by
    rw [hperm.mem_iff, ← mget_mem]; cases mget S.ears s <;> simp
  rw [← hkl] at ho3 ⊢
  have hlen := eo.len
  refine ⟨_, _, _, rfl, fun vs h' => match vs with
    | [.slc x n f, .int _ k] => ∃ (k' : Nat) (l : List Int) (G : List Nat), k = k' ∧ k' ≤ ks.length ∧ n = l.length ∧ l = (ks.take k').filter (fun s => decide (mget S.ears s = some a)) ∧ Own 1 x n (uRows l) h' G ∧ (∀ j ∈ G, h3.next ≤ j) ∧ (∀ j, j < h3.next → h'.get j = h3.get j) ∧ h'.wf ∧ h3.next ≤ h'.next
    | _ => False, fun vs _ => match vs with
    | [_, .int _ k] => ks.length - k.toNat
    | _ => 0, ⟨by trivial, 0, [], [], rfl, Nat.zero_le _, rfl, rfl, Own.nil _ _, by simp, fun _ _ => rfl, w3, Nat.le_refl _⟩, ?_⟩
  rintro bs x n f k h4 ⟨k, l, G, rfl, hk, rfl, hl, ho4, hG, s4, w4, n4⟩
  cases hi : ltI (↑k) (↑ks.length) with
  | false =>
    rw [ltI_eq, decide_eq_false_iff_not] at hi
    obtain rfl : k = ks.length := by omega
    rw [List.take_length] at hl
    refine hK _ _ ⟨x, f, l, G, rfl, ⟨?_, fun s => ?_⟩, ho4, q3.trans ⟨s4, n4, w4⟩, fun j hj => by have := hG j hj; have := q3.le; omega⟩
    · rw [hl]; exact hks.filter _
    · rw [hl, List.mem_filter, decide_eq_true_eq, hmem]
      exact ⟨fun h => h.2, fun h => ⟨by rw [h]; rfl, h⟩⟩
  | true =>
    rw [ltI_eq, decide_eq_true_eq] at hi
    have hk' : k < ks.length := by omega
    have hwk : IntKind.i64.wrap ((k : Int) + 1) = ((k + 1 : Nat) : Int) := by rw [wr (by omega) (by omega)]; rfl
    have tk : ((k : Int)).toNat = k := by omega
    have ms : ks.length - (((k + 1 : Nat) : Int)).toNat < ks.length - ((k : Int)).toNat := by omega
    obtain ⟨s, hs⟩ : ∃ s, ks[k]? = some s := ⟨_, List.getElem?_eq_getElem hk'⟩
    have ho3' := (Own.rep _ _ _ _).loc _ _ _ (fun j hj => s4 j ((Own.rep _ _ _ _).lt w3 ho3 hj)) ho3
    obtain ⟨qa, qo, row, rfl, hrow, _, hlds, _⟩ := ho3'.ld hk'
    rw [List.getElem?_map, hs] at hrow
    obtain rfl := (Option.some.inj hrow).symm
    have q4 : Quiet h1 h4 := q2.trans (Quiet.trans ⟨s3, n3, w3⟩ ⟨s4, n4, w4⟩)
    have r4 := r1.quiet q1.wf q4
    have hge4 : h4.get e = some oe := by rw [q4.same e (by omega)]; exact hge
    have g4 : h4.get h.next = some (.row [.int .u32 a.ip, .int .u16 a.port] 1 false) := by rw [q4.same _ (by omega)]; exact g1
    have hlk := hmo.look mtA s h4 e hge4
    rw [lookV_getD] at hlk
    have hsome : (mget S.ears s).isSome = true := (hmem s).1 (List.mem_of_getElem? hs)
    obtain ⟨b, hb⟩ := Option.isSome_iff_exists.1 hsome
    rw [hb] at hlk
    have hnext : (ks.take (k + 1)).filter (fun s => decide (mget S.ears s = some a)) = l ++ (if b = a then [s] else []) := by
      rw [List.take_add_one, hs, List.filter_append, ← hl]
      congr 1
      by_cases e : b = a
      · subst e; simp [hb]
      · simp [hb, e]
    rw [hwk]
    refine ⟨⟨by omega, hi⟩, s, by rw [tk]; exact hlds 0 (by omega), some e, by rw [r1.ldk (q4.same t (by have := hFl t r.tF; omega))]; exact hld, b.ip, b.port, hlk, a.ip, a.port, by simp (disch := (first | omega | (simp only [Hp.alloc_next, Hp.set_next] <;> omega) | (simp (disch := (first | omega | (simp only [Hp.alloc_next, Hp.set_next] <;> omega) | fail)) only [Hp.get_set_self, Hp.get_set_ne, Hp.get_alloc_self, Hp.get_alloc_ne, Hp.get_alloc_at, Hp.get_set_at, Hp.set_next, Hp.alloc_next, g4]; done) | fail)) only [Hp.st, Hp.ld, Hp.lda, splice, ble_eq', if_true, if_false, ite_true, ite_false, cond_true, cond_false, decide_true, decide_false, List.length_cons, List.length_nil, List.take_zero, List.take_succ_cons, List.nil_append, List.cons_append, List.append_nil, List.drop_succ_cons, List.drop_zero, List.drop_nil, List.getElem?_cons_succ, List.getElem?_cons_zero, Nat.reduceAdd, Nat.reduceLeDiff, Nat.reduceEqDiff, Nat.zero_add, Nat.add_zero, Nat.le_refl, Nat.zero_le, Nat.succ_ne_self, Nat.mul_one, Int.toNat_natCast, Option.some.injEq, Option.isNone_some, Option.isNone_none, V.int.injEq, V.str.injEq, V.bool.injEq, V.ptr.injEq, V.slc.injEq, V.map.injEq, V.agg.injEq, V.tup.injEq, List.cons.injEq, Prod.mk.injEq, onS, true_and, and_true, and_assoc, exists_and_left, exists_eq_left', forall_eq, heq_eq_eq, reduceCtorEq, Bool.not_true, Bool.not_false, eq_self, not_false_eq_true, Nat.left_eq_add, Nat.add_eq_left, Nat.add_left_cancel_iff, Nat.add_right_cancel_iff, Nat.reduceEqDiff, Nat.one_ne_zero, Hp.get_set_self, Hp.get_set_ne, Hp.get_alloc_self, Hp.get_alloc_ne, Hp.get_alloc_at, Hp.get_set_at, Hp.set_next, Hp.alloc_next, Option.some_ne_none, V.tup.injEq, Option.isSome_some, Option.isSome_none, exists_eq_left, exists_eq, Nat.mul_zero, g4], ?_⟩
    have hc : (b.ip == a.ip && (b.port == a.port && true)) = decide (b = a) := by
      rw [Bool.eq_iff_iff]; cases b; cases a; simp
    rw [hc]
    by_cases e : b = a
    · rw [decide_eq_true e]
      rintro h5 rfl
      rw [if_pos e] at hnext
      obtain ⟨h6, hx6, ho6, s6, n6, w6⟩ := app75 (f := f) (c := .int .u64 s) ho4 w4 (by
        have : l.length ≤ ks.length := by rw [hl]; exact Nat.le_trans (List.length_filter_le _ _) (by rw [List.length_take]; omega)
        omega)
      refine ⟨_, _, _, h6, hx6, by trivial, ⟨k + 1, l ++ [s], [h4.next + 1], rfl, hk', by simp, hnext.symm, by unfold uRows at ho6 ⊢; simpa using ho6, fun j hj => by rw [List.mem_singleton] at hj; omega, fun j hj => ?_, w6, by omega⟩, ms⟩
      rw [s6 j (by omega) (fun hh => by have := hG j hh; omega)]; exact s4 j hj
    · rw [decide_eq_false e]
      rw [if_neg e, List.append_nil] at hnext
      exact ⟨by trivial, ⟨k + 1, l, G, rfl, hk', rfl, hnext.symm, ho4, hG, s4, w4, n4⟩, ms⟩

/-- what Find answers -/
def FindR (S : TS) (p : Pr) (hash now k w : Int) : Prop :=
  (∃ s u, look S p = some (s, u) ∧ 0 < s ∧ k = 1 ∧ w = s) ∨ (∃ s u, look S p = some (s, u) ∧ ¬ 0 < s ∧ now < u ∧ k = 3 ∧ w = 0) ∨
  ((∀ s u, look S p = some (s, u) → ¬ 0 < s ∧ ¬ now < u) ∧ ∃ l1 l2 : List Int, AtL S ⟨p.a, p.b⟩ l1 ∧ AtL S ⟨0, p.b⟩ l2 ∧
    (((if l1 = [] then l2 else l1) = [] ∧ k = 0 ∧ w = 0) ∨ (k = 2 ∧ (if l1 = [] then l2 else l1)[(hash * (if l1 = [] then l2 else l1).length / 4294967296).toNat]? = some w)))

theorem idx {hash : Int} {n : Nat} (hh : 0 ≤ hash ∧ hash < 4294967296) (hn : 0 < n ∧ n ≤ 1000000) : (IntKind.u64.wrap (IntKind.u64.wrap hash * IntKind.u64.wrap n)).fdiv (2 ^ min (Int.toNat 32) IntKind.u64.bits) = hash * n / 4294967296 ∧ 0 ≤ hash * n / 4294967296 ∧ hash * n / 4294967296 < n := by
  have e1 : IntKind.u64.wrap hash = hash := by rw [wrap_of]; simp [IntKind.min, IntKind.max, IntKind.signed, IntKind.bits]; omega
  have e2 : IntKind.u64.wrap (n : Int) = n := by rw [wrap_of]; simp [IntKind.min, IntKind.max, IntKind.signed, IntKind.bits]; omega
  have h0 : 0 ≤ hash * n := Int.mul_nonneg hh.1 (by omega)
  have h1 : hash * n ≤ 4294967295 * n := Int.mul_le_mul_of_nonneg_right (by omega) (by omega)
  have e3 : IntKind.u64.wrap (hash * n) = hash * n := by rw [wrap_of]; simp [IntKind.min, IntKind.max, IntKind.signed, IntKind.bits]; omega
  have e4 : ((2 : Int) ^ min (Int.toNat 32) IntKind.u64.bits) = 4294967296 := by decide
  rw [e1, e2, e3, e4, Int.fdiv_eq_ediv_of_nonneg _ (by decide)]
  exact ⟨rfl, by omega, by omega⟩

theorem find_tail (hw : h.wf) (r : TabR t S h F) (eo : EarsOk S) (p : Pr) {hash now : Int} (hh : 0 ≤ hash ∧ hash < 4294967296) {K : V → Hp → Prop} (hK : ∀ v h', (Quiet h h' ∧ ∃ k w, v = .tup [.int .u8 k, .int .u64 w] ∧ FindR S p hash now k w) → K v h') {h5 : Hp} {c pc : Nat} (q : Quiet h h5)
    (g5 : h5.get pc = some (.row [.int .u32 p.a, .int .u16 p.b, .int .u32 p.c, .int .u16 p.d] 1 false)) (c5 : h5.get c = some (.row [.int .u64 ((look S p).getD (0, 0)).1, .int .i64 ((look S p).getD (0, 0)).2] 1 false)) {bb : Bool} (hbb : bb = (look S p).isSome) :
    ∃ (Q1 : List V → Hp → Prop), (bif bb then ∃ (n22 : Int), h5.ld c (0 : Nat) = some (V.int IntKind.u64 n22) ∧ bif ltI (0 : Int) n22 then ∃ (n23 : Int), h5.ld c (0 : Nat) = some (V.int IntKind.u64 n23) ∧ K (V.tup [V.int IntKind.u8 (1 : Int), V.int IntKind.u64 n23]) h5 else bif bb then ∃ (n24 : Int), h5.ld c (1 : Nat) = some (V.int IntKind.i64 n24) ∧ bif ltI now n24 then K (V.tup [V.int IntKind.u8 (3 : Int), V.int IntKind.u64 (0 : Int)]) h5 else [V.ptr (some (t, (0 : Nat))), V.ptr (some (pc, (0 : Nat))), V.int IntKind.u32 hash] = [V.ptr (some (t, (0 : Nat))), V.ptr (some (pc, (0 : Nat))), V.int IntKind.u32 hash] ∧ Q1 [] h5 else [V.ptr (some (t, (0 : Nat))), V.ptr (some (pc, (0 : Nat))), V.int IntKind.u32 hash] = [V.ptr (some (t, (0 : Nat))), V.ptr (some (pc, (0 : Nat))), V.int IntKind.u32 hash] ∧ Q1 [] h5 else bif bb then ∃ (n25 : Int), h5.ld c (1 : Nat) = some (V.int IntKind.i64 n25) ∧ bif ltI now n25 then K (V.tup [V.int IntKind.u8 (3 : Int), V.int IntKind.u64 (0 : Int)]) h5 else [V.ptr (some (t, (0 : Nat))), V.ptr (some (pc, (0 : Nat))), V.int IntKind.u32 hash] = [V.ptr (some (t, (0 : Nat))), V.ptr (some (pc, (0 : Nat))), V.int IntKind.u32 hash] ∧ Q1 [] h5 else [V.ptr (some (t, (0 : Nat))), V.ptr (some (pc, (0 : Nat))), V.int IntKind.u32 hash] = [V.ptr (some (t, (0 : Nat))), V.ptr (some (pc, (0 : Nat))), V.int IntKind.u32 hash] ∧ Q1 [] h5) ∧ ∀ (bs1 : Nat → Option V) (h1 : Hp), Q1 [] h1 → ∃ (n26 : Int), ∃ (n27 : Int), h1.lda pc (0 : Nat) (2 : Nat) = some (V.agg [V.int IntKind.u32 n26, V.int IntKind.u16 n27]) ∧ XCalls Try.prog (31 : Nat) [V.ptr (some (t, (0 : Nat))), V.agg [V.int IntKind.u32 n26, V.int IntKind.u16 n27]] h1 fun (v3 : V) (h'6 : Hp) => ∃ (a1 : Option (Nat × Nat)), ∃ (n28 : Nat), ∃ (f1 : Bool), v3 = V.slc a1 n28 f1 ∧ ∃ (Q2 : List V → Hp → Prop), (bif (↑n28 : Int) == (0 : Int) then ∃ (n29 : Int), h'6.ld pc (1 : Nat) = some (V.int IntKind.u16 n29) ∧ XCalls Try.prog (31 : Nat) [V.ptr (some (t, (0 : Nat))), V.agg [V.int IntKind.u32 (0 : Int), V.int IntKind.u16 n29]] h'6 fun (v4 : V) (h'7 : Hp) => ∃ (a2 : Option (Nat × Nat)), ∃ (n30 : Nat), ∃ (f2 : Bool), v4 = V.slc a2 n30 f2 ∧ [V.int IntKind.u32 hash] = [V.int IntKind.u32 hash] ∧ Q2 [V.slc a2 n30 f2] h'7 else [V.int IntKind.u32 hash] = [V.int IntKind.u32 hash] ∧ Q2 [V.slc a1 n28 f1] h'6) ∧ ∀ (bs2 : Nat → Option V) (a3 : Option (Nat × Nat)) (n31 : Nat) (f3 : Bool) (h2 : Hp), Q2 [V.slc a3 n31 f3] h2 → bif (↑n31 : Int) == (0 : Int) then K (V.tup [V.int IntKind.u8 (0 : Int), V.int IntKind.u64 (0 : Int)]) h2 else ¬(32 : Int) < (0 : Int) ∧ ((0 : Int) ≤ (IntKind.u64.wrap (IntKind.u64.wrap hash * IntKind.u64.wrap (↑n31 : Int))).fdiv ((2 : Int) ^ min (Int.toNat (32 : Int)) IntKind.u64.bits) ∧ (IntKind.u64.wrap (IntKind.u64.wrap hash * IntKind.u64.wrap (↑n31 : Int))).fdiv ((2 : Int) ^ min (Int.toNat (32 : Int)) IntKind.u64.bits) < (↑n31 : Int)) ∧ onS a3 fun (i1 o1 : Nat) => ∃ (n32 : Int), h2.ld i1 (o1 + ((IntKind.u64.wrap (IntKind.u64.wrap hash * IntKind.u64.wrap (↑n31 : Int))).fdiv ((2 : Int) ^ min (Int.toNat (32 : Int)) IntKind.u64.bits)).toNat * (1 : Nat)) = some (V.int IntKind.u64 n32) ∧ K (V.tup [V.int IntKind.u8 (2 : Int), V.int IntKind.u64 n32]) h2 := by
  have r5 := r.quiet hw q
  have hpc := q.wf.lt g5
  subst hbb
  refine ⟨fun vs h' => match vs with
    | [] => h' = h5 ∧ ∀ s u, look S p = some (s, u) → ¬ 0 < s ∧ ¬ now < u
    | _ => False, ?_, ?_⟩
  · cases hx : look S p with
    | none => exact ⟨rfl, rfl, fun s u h => by cases h⟩
    | some x =>
      obtain ⟨s, u⟩ := x
      rw [hx] at c5
      refine ⟨s, by simp (disch := (first | omega | (simp only [Hp.alloc_next, Hp.set_next] <;> omega) | (simp (disch := (first | omega | (simp only [Hp.alloc_next, Hp.set_next] <;> omega) | fail)) only [Hp.get_set_self, Hp.get_set_ne, Hp.get_alloc_self, Hp.get_alloc_ne, Hp.get_alloc_at, Hp.get_set_at, Hp.set_next, Hp.alloc_next, c5]; done) | fail)) only [Hp.st, Hp.ld, Hp.lda, splice, ble_eq', if_true, if_false, ite_true, ite_false, cond_true, cond_false, decide_true, decide_false, List.length_cons, List.length_nil, List.take_zero, List.take_succ_cons, List.nil_append, List.cons_append, List.append_nil, List.drop_succ_cons, List.drop_zero, List.drop_nil, List.getElem?_cons_succ, List.getElem?_cons_zero, Nat.reduceAdd, Nat.reduceLeDiff, Nat.reduceEqDiff, Nat.zero_add, Nat.add_zero, Nat.le_refl, Nat.zero_le, Nat.succ_ne_self, Nat.mul_one, Int.toNat_natCast, Option.some.injEq, Option.isNone_some, Option.isNone_none, V.int.injEq, V.str.injEq, V.bool.injEq, V.ptr.injEq, V.slc.injEq, V.map.injEq, V.agg.injEq, V.tup.injEq, List.cons.injEq, Prod.mk.injEq, onS, true_and, and_true, and_assoc, exists_and_left, exists_eq_left', forall_eq, heq_eq_eq, reduceCtorEq, Bool.not_true, Bool.not_false, eq_self, not_false_eq_true, Nat.left_eq_add, Nat.add_eq_left, Nat.add_left_cancel_iff, Nat.add_right_cancel_iff, Nat.reduceEqDiff, Nat.one_ne_zero, Hp.get_set_self, Hp.get_set_ne, Hp.get_alloc_self, Hp.get_alloc_ne, Hp.get_alloc_at, Hp.get_set_at, Hp.set_next, Hp.alloc_next, Option.some_ne_none, V.tup.injEq, Option.isSome_some, Option.isSome_none, exists_eq_left, exists_eq, Nat.mul_zero, c5]; rfl, ?_⟩
      cases c1 : ltI 0 s with
      | true =>
        rw [ltI_eq, decide_eq_true_eq] at c1
        exact ⟨s, by simp (disch := (first | omega | (simp only [Hp.alloc_next, Hp.set_next] <;> omega) | (simp (disch := (first | omega | (simp only [Hp.alloc_next, Hp.set_next] <;> omega) | fail)) only [Hp.get_set_self, Hp.get_set_ne, Hp.get_alloc_self, Hp.get_alloc_ne, Hp.get_alloc_at, Hp.get_set_at, Hp.set_next, Hp.alloc_next, c5]; done) | fail)) only [Hp.st, Hp.ld, Hp.lda, splice, ble_eq', if_true, if_false, ite_true, ite_false, cond_true, cond_false, decide_true, decide_false, List.length_cons, List.length_nil, List.take_zero, List.take_succ_cons, List.nil_append, List.cons_append, List.append_nil, List.drop_succ_cons, List.drop_zero, List.drop_nil, List.getElem?_cons_succ, List.getElem?_cons_zero, Nat.reduceAdd, Nat.reduceLeDiff, Nat.reduceEqDiff, Nat.zero_add, Nat.add_zero, Nat.le_refl, Nat.zero_le, Nat.succ_ne_self, Nat.mul_one, Int.toNat_natCast, Option.some.injEq, Option.isNone_some, Option.isNone_none, V.int.injEq, V.str.injEq, V.bool.injEq, V.ptr.injEq, V.slc.injEq, V.map.injEq, V.agg.injEq, V.tup.injEq, List.cons.injEq, Prod.mk.injEq, onS, true_and, and_true, and_assoc, exists_and_left, exists_eq_left', forall_eq, heq_eq_eq, reduceCtorEq, Bool.not_true, Bool.not_false, eq_self, not_false_eq_true, Nat.left_eq_add, Nat.add_eq_left, Nat.add_left_cancel_iff, Nat.add_right_cancel_iff, Nat.reduceEqDiff, Nat.one_ne_zero, Hp.get_set_self, Hp.get_set_ne, Hp.get_alloc_self, Hp.get_alloc_ne, Hp.get_alloc_at, Hp.get_set_at, Hp.set_next, Hp.alloc_next, Option.some_ne_none, V.tup.injEq, Option.isSome_some, Option.isSome_none, exists_eq_left, exists_eq, Nat.mul_zero, c5]; rfl, hK _ _ ⟨q, 1, s, rfl, .inl ⟨s, u, hx, c1, rfl, rfl⟩⟩⟩
      | false =>
        rw [ltI_eq, decide_eq_false_iff_not] at c1
        refine ⟨u, by simp (disch := (first | omega | (simp only [Hp.alloc_next, Hp.set_next] <;> omega) | (simp (disch := (first | omega | (simp only [Hp.alloc_next, Hp.set_next] <;> omega) | fail)) only [Hp.get_set_self, Hp.get_set_ne, Hp.get_alloc_self, Hp.get_alloc_ne, Hp.get_alloc_at, Hp.get_set_at, Hp.set_next, Hp.alloc_next, c5]; done) | fail)) only [Hp.st, Hp.ld, Hp.lda, splice, ble_eq', if_true, if_false, ite_true, ite_false, cond_true, cond_false, decide_true, decide_false, List.length_cons, List.length_nil, List.take_zero, List.take_succ_cons, List.nil_append, List.cons_append, List.append_nil, List.drop_succ_cons, List.drop_zero, List.drop_nil, List.getElem?_cons_succ, List.getElem?_cons_zero, Nat.reduceAdd, Nat.reduceLeDiff, Nat.reduceEqDiff, Nat.zero_add, Nat.add_zero, Nat.le_refl, Nat.zero_le, Nat.succ_ne_self, Nat.mul_one, Int.toNat_natCast, Option.some.injEq, Option.isNone_some, Option.isNone_none, V.int.injEq, V.str.injEq, V.bool.injEq, V.ptr.injEq, V.slc.injEq, V.map.injEq, V.agg.injEq, V.tup.injEq, List.cons.injEq, Prod.mk.injEq, onS, true_and, and_true, and_assoc, exists_and_left, exists_eq_left', forall_eq, heq_eq_eq, reduceCtorEq, Bool.not_true, Bool.not_false, eq_self, not_false_eq_true, Nat.left_eq_add, Nat.add_eq_left, Nat.add_left_cancel_iff, Nat.add_right_cancel_iff, Nat.reduceEqDiff, Nat.one_ne_zero, Hp.get_set_self, Hp.get_set_ne, Hp.get_alloc_self, Hp.get_alloc_ne, Hp.get_alloc_at, Hp.get_set_at, Hp.set_next, Hp.alloc_next, Option.some_ne_none, V.tup.injEq, Option.isSome_some, Option.isSome_none, exists_eq_left, exists_eq, Nat.mul_zero, c5]; rfl, ?_⟩
        cases c2 : ltI now u with
        | true =>
          rw [ltI_eq, decide_eq_true_eq] at c2
          exact hK _ _ ⟨q, 3, 0, rfl, .inr (.inl ⟨s, u, hx, c1, c2, rfl, rfl⟩)⟩
        | false =>
          rw [ltI_eq, decide_eq_false_iff_not] at c2
          exact ⟨rfl, rfl, fun s' u' h => by cases h; exact ⟨c1, c2⟩⟩
  rintro bs h1 ⟨rfl, hno⟩
  refine ⟨p.a, p.b, by simp (disch := (first | omega | (simp only [Hp.alloc_next, Hp.set_next] <;> omega) | (simp (disch := (first | omega | (simp only [Hp.alloc_next, Hp.set_next] <;> omega) | fail)) only [Hp.get_set_self, Hp.get_set_ne, Hp.get_alloc_self, Hp.get_alloc_ne, Hp.get_alloc_at, Hp.get_set_at, Hp.set_next, Hp.alloc_next, g5]; done) | fail)) only [Hp.st, Hp.ld, Hp.lda, splice, ble_eq', if_true, if_false, ite_true, ite_false, cond_true, cond_false, decide_true, decide_false, List.length_cons, List.length_nil, List.take_zero, List.take_succ_cons, List.nil_append, List.cons_append, List.append_nil, List.drop_succ_cons, List.drop_zero, List.drop_nil, List.getElem?_cons_succ, List.getElem?_cons_zero, Nat.reduceAdd, Nat.reduceLeDiff, Nat.reduceEqDiff, Nat.zero_add, Nat.add_zero, Nat.le_refl, Nat.zero_le, Nat.succ_ne_self, Nat.mul_one, Int.toNat_natCast, Option.some.injEq, Option.isNone_some, Option.isNone_none, V.int.injEq, V.str.injEq, V.bool.injEq, V.ptr.injEq, V.slc.injEq, V.map.injEq, V.agg.injEq, V.tup.injEq, List.cons.injEq, Prod.mk.injEq, onS, true_and, and_true, and_assoc, exists_and_left, exists_eq_left', forall_eq, heq_eq_eq, reduceCtorEq, Bool.not_true, Bool.not_false, eq_self, not_false_eq_true, Nat.left_eq_add, Nat.add_eq_left, Nat.add_left_cancel_iff, Nat.add_right_cancel_iff, Nat.reduceEqDiff, Nat.one_ne_zero, Hp.get_set_self, Hp.get_set_ne, Hp.get_alloc_self, Hp.get_alloc_ne, Hp.get_alloc_at, Hp.get_set_at, Hp.set_next, Hp.alloc_next, Option.some_ne_none, V.tup.injEq, Option.isSome_some, Option.isSome_none, exists_eq_left, exists_eq, Nat.mul_zero, g5], ?_⟩
  refine (at_spec q.wf r5 eo ⟨p.a, p.b⟩).mono ?_
  rintro _ h6 ⟨x1, f1, l1, G1, rfl, hl1, ho6, q6, hG1⟩
  have qq := q.trans q6
  have g6 : h6.get pc = some (.row [.int .u32 p.a, .int .u16 p.b, .int .u32 p.c, .int .u16 p.d] 1 false) := by rw [q6.same _ hpc]; exact g5
  have r6 := r.quiet hw qq
  have bound : ∀ {a : Ad} {l : List Int}, AtL S a l → l.length ≤ 1000000 := fun {a l} hl => by
    have nd : l.Nodup := hl.1.imp fun h => by omega
    have := List.Nodup.length_le_of_subset nd (l₂ := S.ears.map Prod.fst) (fun s hs => (mget_mem S.ears s).1 (by rw [(hl.2 s).1 hs]; simp))
    rw [List.length_map] at this
    have := eo.len; omega
  refine ⟨_, _, _, rfl, fun vs h' => match vs with
    | [.slc x n f] => ∃ l G l2, n = l.length ∧ AtL S ⟨0, p.b⟩ l2 ∧ l = (if l1 = [] then l2 else l1) ∧ Own 1 x n (uRows l) h' G ∧ Quiet h h'
    | _ => False, ?_, ?_⟩
  · cases hz : ((l1.length : Int) == 0) with
    | true =>
      rw [beq_iff_eq] at hz
      have h0 : l1 = [] := List.length_eq_zero_iff.1 (by omega)
      refine ⟨p.b, by simp (disch := (first | omega | (simp only [Hp.alloc_next, Hp.set_next] <;> omega) | (simp (disch := (first | omega | (simp only [Hp.alloc_next, Hp.set_next] <;> omega) | fail)) only [Hp.get_set_self, Hp.get_set_ne, Hp.get_alloc_self, Hp.get_alloc_ne, Hp.get_alloc_at, Hp.get_set_at, Hp.set_next, Hp.alloc_next, g6]; done) | fail)) only [Hp.st, Hp.ld, Hp.lda, splice, ble_eq', if_true, if_false, ite_true, ite_false, cond_true, cond_false, decide_true, decide_false, List.length_cons, List.length_nil, List.take_zero, List.take_succ_cons, List.nil_append, List.cons_append, List.append_nil, List.drop_succ_cons, List.drop_zero, List.drop_nil, List.getElem?_cons_succ, List.getElem?_cons_zero, Nat.reduceAdd, Nat.reduceLeDiff, Nat.reduceEqDiff, Nat.zero_add, Nat.add_zero, Nat.le_refl, Nat.zero_le, Nat.succ_ne_self, Nat.mul_one, Int.toNat_natCast, Option.some.injEq, Option.isNone_some, Option.isNone_none, V.int.injEq, V.str.injEq, V.bool.injEq, V.ptr.injEq, V.slc.injEq, V.map.injEq, V.agg.injEq, V.tup.injEq, List.cons.injEq, Prod.mk.injEq, onS, true_and, and_true, and_assoc, exists_and_left, exists_eq_left', forall_eq, heq_eq_eq, reduceCtorEq, Bool.not_true, Bool.not_false, eq_self, not_false_eq_true, Nat.left_eq_add, Nat.add_eq_left, Nat.add_left_cancel_iff, Nat.add_right_cancel_iff, Nat.reduceEqDiff, Nat.one_ne_zero, Hp.get_set_self, Hp.get_set_ne, Hp.get_alloc_self, Hp.get_alloc_ne, Hp.get_alloc_at, Hp.get_set_at, Hp.set_next, Hp.alloc_next, Option.some_ne_none, V.tup.injEq, Option.isSome_some, Option.isSome_none, exists_eq_left, exists_eq, Nat.mul_zero, g6], ?_⟩
      refine (at_spec qq.wf r6 eo ⟨0, p.b⟩).mono ?_
      rintro _ h7 ⟨x2, f2, l2, G2, rfl, hl2, ho7, q7, hG2⟩
      exact ⟨_, _, _, rfl, rfl, l2, G2, l2, rfl, hl2, by rw [if_pos h0], ho7, qq.trans q7⟩
    | false =>
      rw [beq_eq_false_iff_ne] at hz
      have h0 : ¬ l1 = [] := fun e => by subst e; simp at hz
      refine ⟨rfl, l1, G1, ?_⟩
      obtain ⟨l2, hl2⟩ : ∃ l2, AtL S ⟨0, p.b⟩ l2 := by
        refine ⟨((S.ears.map Prod.fst).filter (fun s => decide (mget S.ears s = some ⟨0, p.b⟩))).mergeSort (fun a b => decide (a ≤ b)), ?_, fun s => ?_⟩
        · have h1 := List.pairwise_mergeSort (le := fun a b : Int => decide (a ≤ b)) (fun a b c h1 h2 => by simp only [decide_eq_true_eq] at *; omega) (fun a b => by simp only [Bool.or_eq_true, decide_eq_true_eq]; omega) ((S.ears.map Prod.fst).filter (fun s => decide (mget S.ears s = some ⟨0, p.b⟩)))
          have h2 : (((S.ears.map Prod.fst).filter (fun s => decide (mget S.ears s = some ⟨0, p.b⟩))).mergeSort (fun a b => decide (a ≤ b))).Nodup := (List.mergeSort_perm _ _).nodup_iff.2 (eo.nd.filter _)
          exact (h1.and h2).imp (fun {x y : Int} h => by have h3 := h.1; have h4 := h.2; simp only [decide_eq_true_eq] at h3; omega)
        · rw [List.mem_mergeSort, List.mem_filter, decide_eq_true_eq, ← mget_mem]
          exact ⟨fun h => h.2, fun h => ⟨by rw [h]; simp, h⟩⟩
      exact ⟨l2, rfl, hl2, by rw [if_neg h0], ho6, qq⟩
  rintro bs2 x n f h7 ⟨l, G, l2, rfl, hl2, hl, ho7, q7⟩
  cases hz : ((l.length : Int) == 0) with
  | true =>
    rw [beq_iff_eq] at hz
    have h0 : l = [] := List.length_eq_zero_iff.1 (by omega)
    exact hK _ _ ⟨q7, 0, 0, rfl, .inr (.inr ⟨hno, l1, l2, hl1, hl2, .inl ⟨by rw [← hl]; exact h0, rfl, rfl⟩⟩)⟩
  | false =>
    rw [beq_eq_false_iff_ne] at hz
    have hlb : l.length ≤ 1000000 := by
      rw [hl]
      split
      · exact bound hl2
      · exact bound hl1
    obtain ⟨e1, e2, e3⟩ := idx (n := l.length) hh (by omega)
    rw [e1]
    obtain ⟨qa, qo, row, rfl, hrow, _, hlds, _⟩ := ho7.ld (k := (hash * l.length / 4294967296).toNat) (by omega)
    obtain ⟨w, hwv⟩ : ∃ w, l[(hash * l.length / 4294967296).toNat]? = some w := ⟨_, List.getElem?_eq_getElem (by omega)⟩
    unfold uRows at hrow
    rw [List.getElem?_map, hwv] at hrow
    obtain rfl := (Option.some.inj hrow).symm
    exact ⟨by omega, ⟨e2, e3⟩, w, hlds 0 (by omega), hK _ _ ⟨q7, 2, w, rfl, .inr (.inr ⟨hno, l1, l2, hl1, hl2, .inr ⟨rfl, by rw [← hl]; exact hwv⟩⟩)⟩⟩

theorem find_spec (hw : h.wf) (r : TabR t S h F) (eo : EarsOk S) (p : Pr) {hash now : Int} (hh : 0 ≤ hash ∧ hash < 4294967296) : XCalls Try.prog 14 [.ptr (some (t, 0)), p.v, .int .u32 hash, .int .i64 now] h fun v h' => Quiet h h' ∧ ∃ k w, v = .tup [.int .u8 k, .int .u64 w] ∧ FindR S p hash now k w := by
  refine XCalls.cps fun K hK => ?_
  apply x14; unfold X14
  rintro h1 rfl
  have q1 := Quiet.alloc hw (.row [.int .u32 p.a, .int .u16 p.b, .int .u32 p.c, .int .u16 p.d] 1 false)
  have g1 : (h.alloc (.row [.int .u32 p.a, .int .u16 p.b, .int .u32 p.c, .int .u16 p.d] 1 false)).get h.next = some (.row [.int .u32 p.a, .int .u16 p.b, .int .u32 p.c, .int .u16 p.d] 1 false) := Hp.get_alloc_self
  have r1 := r.quiet hw q1
  have n1 : (h.alloc (.row [.int .u32 p.a, .int .u16 p.b, .int .u32 p.c, .int .u16 p.d] 1 false)).next = h.next + 1 := Hp.alloc_next _ _
  generalize h.alloc (.row [.int .u32 p.a, .int .u16 p.b, .int .u32 p.c, .int .u16 p.d] 1 false) = h1 at *
  have hFl := r.lt hw
  have htl := hFl t r.tF
  have hsl := shard_lt p
  refine (made_spec r1).mono ?_
  rintro _ h2 ⟨rfl, rfl⟩
  refine ⟨_, rfl, p.a, p.b, p.c, p.d, by simp (disch := (first | omega | (simp only [Hp.alloc_next, Hp.set_next] <;> omega) | (simp (disch := (first | omega | (simp only [Hp.alloc_next, Hp.set_next] <;> omega) | fail)) only [Hp.get_set_self, Hp.get_set_ne, Hp.get_alloc_self, Hp.get_alloc_ne, Hp.get_alloc_at, Hp.get_set_at, Hp.set_next, Hp.alloc_next, g1]; done) | fail)) only [Hp.st, Hp.ld, Hp.lda, splice, ble_eq', if_true, if_false, ite_true, ite_false, cond_true, cond_false, decide_true, decide_false, List.length_cons, List.length_nil, List.take_zero, List.take_succ_cons, List.nil_append, List.cons_append, List.append_nil, List.drop_succ_cons, List.drop_zero, List.drop_nil, List.getElem?_cons_succ, List.getElem?_cons_zero, Nat.reduceAdd, Nat.reduceLeDiff, Nat.reduceEqDiff, Nat.zero_add, Nat.add_zero, Nat.le_refl, Nat.zero_le, Nat.succ_ne_self, Nat.mul_one, Int.toNat_natCast, Option.some.injEq, Option.isNone_some, Option.isNone_none, V.int.injEq, V.str.injEq, V.bool.injEq, V.ptr.injEq, V.slc.injEq, V.map.injEq, V.agg.injEq, V.tup.injEq, List.cons.injEq, Prod.mk.injEq, onS, true_and, and_true, and_assoc, exists_and_left, exists_eq_left', forall_eq, heq_eq_eq, reduceCtorEq, Bool.not_true, Bool.not_false, eq_self, not_false_eq_true, Nat.left_eq_add, Nat.add_eq_left, Nat.add_left_cancel_iff, Nat.add_right_cancel_iff, Nat.reduceEqDiff, Nat.one_ne_zero, Hp.get_set_self, Hp.get_set_ne, Hp.get_alloc_self, Hp.get_alloc_ne, Hp.get_alloc_at, Hp.get_set_at, Hp.set_next, Hp.alloc_next, Option.some_ne_none, V.tup.injEq, Option.isSome_some, Option.isSome_none, exists_eq_left, exists_eq, Nat.mul_zero, g1], p.a, p.b, p.c, p.d, by simp (disch := (first | omega | (simp only [Hp.alloc_next, Hp.set_next] <;> omega) | (simp (disch := (first | omega | (simp only [Hp.alloc_next, Hp.set_next] <;> omega) | fail)) only [Hp.get_set_self, Hp.get_set_ne, Hp.get_alloc_self, Hp.get_alloc_ne, Hp.get_alloc_at, Hp.get_set_at, Hp.set_next, Hp.alloc_next, g1]; done) | fail)) only [Hp.st, Hp.ld, Hp.lda, splice, ble_eq', if_true, if_false, ite_true, ite_false, cond_true, cond_false, decide_true, decide_false, List.length_cons, List.length_nil, List.take_zero, List.take_succ_cons, List.nil_append, List.cons_append, List.append_nil, List.drop_succ_cons, List.drop_zero, List.drop_nil, List.getElem?_cons_succ, List.getElem?_cons_zero, Nat.reduceAdd, Nat.reduceLeDiff, Nat.reduceEqDiff, Nat.zero_add, Nat.add_zero, Nat.le_refl, Nat.zero_le, Nat.succ_ne_self, Nat.mul_one, Int.toNat_natCast, Option.some.injEq, Option.isNone_some, Option.isNone_none, V.int.injEq, V.str.injEq, V.bool.injEq, V.ptr.injEq, V.slc.injEq, V.map.injEq, V.agg.injEq, V.tup.injEq, List.cons.injEq, Prod.mk.injEq, onS, true_and, and_true, and_assoc, exists_and_left, exists_eq_left', forall_eq, heq_eq_eq, reduceCtorEq, Bool.not_true, Bool.not_false, eq_self, not_false_eq_true, Nat.left_eq_add, Nat.add_eq_left, Nat.add_left_cancel_iff, Nat.add_right_cancel_iff, Nat.reduceEqDiff, Nat.one_ne_zero, Hp.get_set_self, Hp.get_set_ne, Hp.get_alloc_self, Hp.get_alloc_ne, Hp.get_alloc_at, Hp.get_set_at, Hp.set_next, Hp.alloc_next, Option.some_ne_none, V.tup.injEq, Option.isSome_some, Option.isSome_none, exists_eq_left, exists_eq, Nat.mul_zero, g1], ?_, ?_, trivial⟩
  · refine (shard_spec p).mono ?_
    rintro _ h3 ⟨rfl, rfl⟩
    obtain ⟨m, hld, hlk⟩ := r1.shard p
    refine ⟨_, rfl, ⟨p.a, p.b, p.c, p.d, by simp (disch := (first | omega | (simp only [Hp.alloc_next, Hp.set_next] <;> omega) | (simp (disch := (first | omega | (simp only [Hp.alloc_next, Hp.set_next] <;> omega) | fail)) only [Hp.get_set_self, Hp.get_set_ne, Hp.get_alloc_self, Hp.get_alloc_ne, Hp.get_alloc_at, Hp.get_set_at, Hp.set_next, Hp.alloc_next, g1]; done) | fail)) only [Hp.st, Hp.ld, Hp.lda, splice, ble_eq', if_true, if_false, ite_true, ite_false, cond_true, cond_false, decide_true, decide_false, List.length_cons, List.length_nil, List.take_zero, List.take_succ_cons, List.nil_append, List.cons_append, List.append_nil, List.drop_succ_cons, List.drop_zero, List.drop_nil, List.getElem?_cons_succ, List.getElem?_cons_zero, Nat.reduceAdd, Nat.reduceLeDiff, Nat.reduceEqDiff, Nat.zero_add, Nat.add_zero, Nat.le_refl, Nat.zero_le, Nat.succ_ne_self, Nat.mul_one, Int.toNat_natCast, Option.some.injEq, Option.isNone_some, Option.isNone_none, V.int.injEq, V.str.injEq, V.bool.injEq, V.ptr.injEq, V.slc.injEq, V.map.injEq, V.agg.injEq, V.tup.injEq, List.cons.injEq, Prod.mk.injEq, onS, true_and, and_true, and_assoc, exists_and_left, exists_eq_left', forall_eq, heq_eq_eq, reduceCtorEq, Bool.not_true, Bool.not_false, eq_self, not_false_eq_true, Nat.left_eq_add, Nat.add_eq_left, Nat.add_left_cancel_iff, Nat.add_right_cancel_iff, Nat.reduceEqDiff, Nat.one_ne_zero, Hp.get_set_self, Hp.get_set_ne, Hp.get_alloc_self, Hp.get_alloc_ne, Hp.get_alloc_at, Hp.get_set_at, Hp.set_next, Hp.alloc_next, Option.some_ne_none, V.tup.injEq, Option.isSome_some, Option.isSome_none, exists_eq_left, exists_eq, Nat.mul_zero, g1], rfl⟩, rfl, rfl, rfl, ⟨by omega, by omega⟩, some m, hld, ((look S p).getD (0, 0)).1, ((look S p).getD (0, 0)).2, _, hlk, ?_⟩
    rintro h4 rfl
    have q4 := Quiet.alloc q1.wf (.row [.int .u64 0, .int .i64 0] 1 false)
    have n4 : (h3.alloc (.row [.int .u64 0, .int .i64 0] 1 false)).next = h3.next + 1 := Hp.alloc_next _ _
    have g4 : (h3.alloc (.row [.int .u64 0, .int .i64 0] 1 false)).get h3.next = some (.row [.int .u64 0, .int .i64 0] 1 false) := Hp.get_alloc_self
    have gp4 : (h3.alloc (.row [.int .u64 0, .int .i64 0] 1 false)).get h.next = some (.row [.int .u32 p.a, .int .u16 p.b, .int .u32 p.c, .int .u16 p.d] 1 false) := by rw [q4.same _ (by omega)]; exact g1
    generalize h3.alloc (.row [.int .u64 0, .int .i64 0] 1 false) = h4 at *
    have r4 := r1.quiet q1.wf q4
    have hld4 : h4.ld t (0 + ((shard p : Nat) : Int).toNat * 1) = some (.map (some m)) := by rw [r1.ldk (q4.same t (by omega))]; exact hld
    obtain ⟨m4, hld4', hlk4⟩ := r4.shard p
    have : m4 = m := by rw [hld4] at hld4'; simpa using hld4'.symm
    subst this
    refine ⟨rfl, rfl, rfl, ⟨_, _, _, hlk4, rfl⟩, ⟨some m4, hld4, rfl⟩, ⟨⟨by omega, by omega⟩, rfl⟩, ⟨p.a, p.b, p.c, p.d, by simp (disch := (first | omega | (simp only [Hp.alloc_next, Hp.set_next] <;> omega) | (simp (disch := (first | omega | (simp only [Hp.alloc_next, Hp.set_next] <;> omega) | fail)) only [Hp.get_set_self, Hp.get_set_ne, Hp.get_alloc_self, Hp.get_alloc_ne, Hp.get_alloc_at, Hp.get_set_at, Hp.set_next, Hp.alloc_next, gp4]; done) | fail)) only [Hp.st, Hp.ld, Hp.lda, splice, ble_eq', if_true, if_false, ite_true, ite_false, cond_true, cond_false, decide_true, decide_false, List.length_cons, List.length_nil, List.take_zero, List.take_succ_cons, List.nil_append, List.cons_append, List.append_nil, List.drop_succ_cons, List.drop_zero, List.drop_nil, List.getElem?_cons_succ, List.getElem?_cons_zero, Nat.reduceAdd, Nat.reduceLeDiff, Nat.reduceEqDiff, Nat.zero_add, Nat.add_zero, Nat.le_refl, Nat.zero_le, Nat.succ_ne_self, Nat.mul_one, Int.toNat_natCast, Option.some.injEq, Option.isNone_some, Option.isNone_none, V.int.injEq, V.str.injEq, V.bool.injEq, V.ptr.injEq, V.slc.injEq, V.map.injEq, V.agg.injEq, V.tup.injEq, List.cons.injEq, Prod.mk.injEq, onS, true_and, and_true, and_assoc, exists_and_left, exists_eq_left', forall_eq, heq_eq_eq, reduceCtorEq, Bool.not_true, Bool.not_false, eq_self, not_false_eq_true, Nat.left_eq_add, Nat.add_eq_left, Nat.add_left_cancel_iff, Nat.add_right_cancel_iff, Nat.reduceEqDiff, Nat.one_ne_zero, Hp.get_set_self, Hp.get_set_ne, Hp.get_alloc_self, Hp.get_alloc_ne, Hp.get_alloc_at, Hp.get_set_at, Hp.set_next, Hp.alloc_next, Option.some_ne_none, V.tup.injEq, Option.isSome_some, Option.isSome_none, exists_eq_left, exists_eq, Nat.mul_zero, gp4], rfl⟩, rfl, rfl, rfl, _, Hp.st_of g4 (Nat.le_of_ble_eq_true rfl), rfl, ?_⟩
    refine find_tail hw r eo p hh hK ⟨fun j hj => ?_, ?_, ?_⟩ ?_ ?_ rfl
    · rw [Hp.get_set_ne (by omega), q4.same j (by omega), q1.same j hj]
    · simp only [Hp.set_next]; omega
    · exact q4.wf.set (by omega)
    · rw [Hp.get_set_ne (by omega)]; exact gp4
    · rw [Hp.get_set_self]; rfl
  · rintro h4 rfl
    have q4 := Quiet.alloc q1.wf (.row [.int .u64 0, .int .i64 0] 1 false)
    have n4 : (h2.alloc (.row [.int .u64 0, .int .i64 0] 1 false)).next = h2.next + 1 := Hp.alloc_next _ _
    have g4 : (h2.alloc (.row [.int .u64 0, .int .i64 0] 1 false)).get h2.next = some (.row [.int .u64 0, .int .i64 0] 1 false) := Hp.get_alloc_self
    have gp4 : (h2.alloc (.row [.int .u64 0, .int .i64 0] 1 false)).get h.next = some (.row [.int .u32 p.a, .int .u16 p.b, .int .u32 p.c, .int .u16 p.d] 1 false) := by rw [q4.same _ (by omega)]; exact g1
    generalize h2.alloc (.row [.int .u64 0, .int .i64 0] 1 false) = h4 at *
    have r4 := r1.quiet q1.wf q4
    refine ⟨⟨p.a, p.b, p.c, p.d, by simp (disch := (first | omega | (simp only [Hp.alloc_next, Hp.set_next] <;> omega) | (simp (disch := (first | omega | (simp only [Hp.alloc_next, Hp.set_next] <;> omega) | fail)) only [Hp.get_set_self, Hp.get_set_ne, Hp.get_alloc_self, Hp.get_alloc_ne, Hp.get_alloc_at, Hp.get_set_at, Hp.set_next, Hp.alloc_next, gp4]; done) | fail)) only [Hp.st, Hp.ld, Hp.lda, splice, ble_eq', if_true, if_false, ite_true, ite_false, cond_true, cond_false, decide_true, decide_false, List.length_cons, List.length_nil, List.take_zero, List.take_succ_cons, List.nil_append, List.cons_append, List.append_nil, List.drop_succ_cons, List.drop_zero, List.drop_nil, List.getElem?_cons_succ, List.getElem?_cons_zero, Nat.reduceAdd, Nat.reduceLeDiff, Nat.reduceEqDiff, Nat.zero_add, Nat.add_zero, Nat.le_refl, Nat.zero_le, Nat.succ_ne_self, Nat.mul_one, Int.toNat_natCast, Option.some.injEq, Option.isNone_some, Option.isNone_none, V.int.injEq, V.str.injEq, V.bool.injEq, V.ptr.injEq, V.slc.injEq, V.map.injEq, V.agg.injEq, V.tup.injEq, List.cons.injEq, Prod.mk.injEq, onS, true_and, and_true, and_assoc, exists_and_left, exists_eq_left', forall_eq, heq_eq_eq, reduceCtorEq, Bool.not_true, Bool.not_false, eq_self, not_false_eq_true, Nat.left_eq_add, Nat.add_eq_left, Nat.add_left_cancel_iff, Nat.add_right_cancel_iff, Nat.reduceEqDiff, Nat.one_ne_zero, Hp.get_set_self, Hp.get_set_ne, Hp.get_alloc_self, Hp.get_alloc_ne, Hp.get_alloc_at, Hp.get_set_at, Hp.set_next, Hp.alloc_next, Option.some_ne_none, V.tup.injEq, Option.isSome_some, Option.isSome_none, exists_eq_left, exists_eq, Nat.mul_zero, gp4], rfl⟩, rfl, rfl, ⟨p.a, p.b, p.c, p.d, by simp (disch := (first | omega | (simp only [Hp.alloc_next, Hp.set_next] <;> omega) | (simp (disch := (first | omega | (simp only [Hp.alloc_next, Hp.set_next] <;> omega) | fail)) only [Hp.get_set_self, Hp.get_set_ne, Hp.get_alloc_self, Hp.get_alloc_ne, Hp.get_alloc_at, Hp.get_set_at, Hp.set_next, Hp.alloc_next, gp4]; done) | fail)) only [Hp.st, Hp.ld, Hp.lda, splice, ble_eq', if_true, if_false, ite_true, ite_false, cond_true, cond_false, decide_true, decide_false, List.length_cons, List.length_nil, List.take_zero, List.take_succ_cons, List.nil_append, List.cons_append, List.append_nil, List.drop_succ_cons, List.drop_zero, List.drop_nil, List.getElem?_cons_succ, List.getElem?_cons_zero, Nat.reduceAdd, Nat.reduceLeDiff, Nat.reduceEqDiff, Nat.zero_add, Nat.add_zero, Nat.le_refl, Nat.zero_le, Nat.succ_ne_self, Nat.mul_one, Int.toNat_natCast, Option.some.injEq, Option.isNone_some, Option.isNone_none, V.int.injEq, V.str.injEq, V.bool.injEq, V.ptr.injEq, V.slc.injEq, V.map.injEq, V.agg.injEq, V.tup.injEq, List.cons.injEq, Prod.mk.injEq, onS, true_and, and_true, and_assoc, exists_and_left, exists_eq_left', forall_eq, heq_eq_eq, reduceCtorEq, Bool.not_true, Bool.not_false, eq_self, not_false_eq_true, Nat.left_eq_add, Nat.add_eq_left, Nat.add_left_cancel_iff, Nat.add_right_cancel_iff, Nat.reduceEqDiff, Nat.one_ne_zero, Hp.get_set_self, Hp.get_set_ne, Hp.get_alloc_self, Hp.get_alloc_ne, Hp.get_alloc_at, Hp.get_set_at, Hp.set_next, Hp.alloc_next, Option.some_ne_none, V.tup.injEq, Option.isSome_some, Option.isSome_none, exists_eq_left, exists_eq, Nat.mul_zero, gp4], rfl⟩, rfl, ?_⟩
    refine (shard_spec p).mono ?_
    rintro _ h9 ⟨rfl, rfl⟩
    obtain ⟨m, hld, hlk⟩ := r4.shard p
    refine ⟨_, rfl, ⟨p.a, p.b, p.c, p.d, by simp (disch := (first | omega | (simp only [Hp.alloc_next, Hp.set_next] <;> omega) | (simp (disch := (first | omega | (simp only [Hp.alloc_next, Hp.set_next] <;> omega) | fail)) only [Hp.get_set_self, Hp.get_set_ne, Hp.get_alloc_self, Hp.get_alloc_ne, Hp.get_alloc_at, Hp.get_set_at, Hp.set_next, Hp.alloc_next, gp4]; done) | fail)) only [Hp.st, Hp.ld, Hp.lda, splice, ble_eq', if_true, if_false, ite_true, ite_false, cond_true, cond_false, decide_true, decide_false, List.length_cons, List.length_nil, List.take_zero, List.take_succ_cons, List.nil_append, List.cons_append, List.append_nil, List.drop_succ_cons, List.drop_zero, List.drop_nil, List.getElem?_cons_succ, List.getElem?_cons_zero, Nat.reduceAdd, Nat.reduceLeDiff, Nat.reduceEqDiff, Nat.zero_add, Nat.add_zero, Nat.le_refl, Nat.zero_le, Nat.succ_ne_self, Nat.mul_one, Int.toNat_natCast, Option.some.injEq, Option.isNone_some, Option.isNone_none, V.int.injEq, V.str.injEq, V.bool.injEq, V.ptr.injEq, V.slc.injEq, V.map.injEq, V.agg.injEq, V.tup.injEq, List.cons.injEq, Prod.mk.injEq, onS, true_and, and_true, and_assoc, exists_and_left, exists_eq_left', forall_eq, heq_eq_eq, reduceCtorEq, Bool.not_true, Bool.not_false, eq_self, not_false_eq_true, Nat.left_eq_add, Nat.add_eq_left, Nat.add_left_cancel_iff, Nat.add_right_cancel_iff, Nat.reduceEqDiff, Nat.one_ne_zero, Hp.get_set_self, Hp.get_set_ne, Hp.get_alloc_self, Hp.get_alloc_ne, Hp.get_alloc_at, Hp.get_set_at, Hp.set_next, Hp.alloc_next, Option.some_ne_none, V.tup.injEq, Option.isSome_some, Option.isSome_none, exists_eq_left, exists_eq, Nat.mul_zero, gp4], rfl⟩, rfl, rfl, rfl, ⟨by omega, by omega⟩, some m, hld, ((look S p).getD (0, 0)).1, ((look S p).getD (0, 0)).2, _, hlk, _, Hp.st_of g4 (Nat.le_of_ble_eq_true rfl), rfl, ?_⟩
    refine find_tail hw r eo p hh hK ⟨fun j hj => ?_, ?_, ?_⟩ ?_ ?_ rfl
    · rw [Hp.get_set_ne (by omega), q4.same j (by omega), q1.same j hj]
    · simp only [Hp.set_next]; omega
    · exact q4.wf.set (by omega)
    · rw [Hp.get_set_ne (by omega)]; exact gp4
    · rw [Hp.get_set_self]; rfl
end
end Go.Vex.Tbl
