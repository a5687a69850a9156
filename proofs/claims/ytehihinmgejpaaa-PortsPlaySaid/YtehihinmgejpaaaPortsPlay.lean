/-
  PortsPlay of layer 22: whatever the script, the kind and the address, the law returns true and leaves the input as it was. No condition.
-/
import Derived.Test.YtehihinmgejpaaaVexEE
import Derived.Test.YtehihinmgejpaaaTab22
import Derived.Test.YtehihinmgejpaaaXp22
import Derived.Test.YtehihinmgejpaaaXpn22
import Derived.Test.YtehihinmgejpaaaXpq22
import Derived.Test.YtehihinmgejpaaaCpa22
import Derived.Test.YtehihinmgejpaaaCpb22
import Derived.Test.YtehihinmgejpaaaCpc22
import Derived.Test.YtehihinmgejpaaaCpd22
import Derived.Test.YtehihinmgejpaaaXs22
import Derived.Test.YtehihinmgejpaaaCsa22
import Derived.Test.YtehihinmgejpaaaCsb22
import Derived.Test.YtehihinmgejpaaaCsc22
import Derived.Test.YtehihinmgejpaaaCsd22
import Derived.Test.YtehihinmgejpaaaCpe22
import Derived.Test.YtehihinmgejpaaaCpl22
import Derived.Test.YtehihinmgejpaaaCpr22
import Derived.Test.YtehihinmgejpaaaCps22
import Derived.Test.YtehihinmgejpaaaCpt22
import Derived.Test.YtehihinmgejpaaaRows
import Derived.WalkKit
import Derived.ProofKit
import Derived.OpenShut
import Derived.KernelRfl
set_option linter.unusedVariables false
set_option linter.unusedSimpArgs false
namespace Go.Vex.PortsPlay
open Go.Proofs Go.Vex.Ports

def stepZ : List V := [.int .i64 0, .int .u64 0, .int .u64 0, .int .u8 0, .int .u32 0, .int .u16 0, .bool false, .int .u16 0]

theorem step_form {r : List V} (h : shpBs stepZ r = true) : ∃ d w o k i p s x, r = [.int .i64 d, .int .u64 w, .int .u64 o, .int .u8 k, .int .u32 i, .int .u16 p, .bool s, .int .u16 x] :=
  allSs_spec stepZ r (k := fun r => ∃ d w o k i p s x, r = [.int .i64 d, .int .u64 w, .int .u64 o, .int .u8 k, .int .u32 i, .int .u16 p, .bool s, .int .u16 x]) (fun d w o k i p s x => ⟨d, w, o, k, i, p, s, x, rfl⟩) h

theorem flat1 (l : List Int) : (uL l).flatten = l.map (V.int .u64) := by
  induction l with
  | nil => rfl
  | cons a l ih => simp [uL] at ih ⊢; exact ih

theorem own_ld {a : Option (Nat × Nat)} {n : Nat} {l : List Int} {h : Hp} {G : List Nat} (o : Own 1 a n (uL l) h G) {k : Nat} {x : Int} (hx : l[k]? = some x) : ∃ q o, a = some (q, o) ∧ h.ld q (o + k * 1) = some (.int .u64 x) := by
  have hn : l.length = n := by have := o.1; simpa [uL] using this
  have hk := (List.getElem?_eq_some_iff.1 hx).1
  obtain ⟨q, o', r, rfl, hr, _, hld, _⟩ := o.ld (k := k) (by omega)
  have : (uL l)[k]? = some [.int .u64 x] := by unfold uL; rw [List.getElem?_map, hx]; rfl
  rw [this] at hr
  cases hr
  exact ⟨q, o', rfl, by have := hld 0 (by omega); simpa using this⟩

theorem law_calls {h : Hp} {a : Option (Nat × Nat)} {n : Nat} {f : Bool} {rows : List (List V)} (ha : RoSlc h a n rows 8)
    (hr0 : ∀ r ∈ rows, shpBs stepZ r = true ∧ ∀ v ∈ r, v.fits) (hbz : n * Try.prog.bytesOf 39 ≤ reachBytes) (kd : Int) (w1 : (Lit.int .u8 kd).wf = true) (ip : Int) (w2 : IntKind.u32.min ≤ ip ∧ ip ≤ IntKind.u32.max) (port : Int) (w3 : IntKind.u16.min ≤ port ∧ port ≤ IntKind.u16.max) :
    XCalls Try.prog 3 [.slc a n f, .int .u8 kd, .agg [.int .u32 ip, .int .u16 port]] h fun v _ => v = .bool true := by
  have hr : ∀ r ∈ rows, shpBs stepZ r = true := fun r h => (hr0 r h).1
  have hz : ∀ r ∈ rows, r.length = 8 := fun r h => shpBs_length (hr r h)
  refine XCalls.ofWf fun hw => ?_
  refine XCalls.cps fun K hK => ?_
  have KT : ∀ h', K (.bool true) h' := fun h' => hK _ _ rfl
  apply x3; unfold X3
  rintro g0 rfl
  cases c0 : ltI 200 (↑n) with
  | true => exact works_spec fun _ => ⟨_, rfl, KT _⟩
  | false =>
  rw [ltI_eq, decide_eq_false_iff_not] at c0
  simp only [cond_false]
  have q0 := Quiet.alloc hw (.row [.int .u32 ip, .int .u16 port] 1 false)
  have ca : (h.alloc (.row [.int .u32 ip, .int .u16 port] 1 false)).get h.next = some (.row [.int .u32 ip, .int .u16 port] 1 false) := Hp.get_alloc_self
  generalize h.alloc (.row [.int .u32 ip, .int .u16 port] 1 false) = h0 at *
  have hn0 := q0.wf.lt ca
  refine (new_spec q0.wf).mono ?_
  rintro _ g1 ⟨rfl, r1, q1⟩
  refine ⟨_, rfl, ?_⟩
  rintro g2 rfl
  have hr1 := (PortsR.rep _ _).lt q1.wf r1 (j := h0.next + 1) (by simp)
  have j0 : PJ h0 (h0.next + 1) h0.next g1.next [] [] [g1.next] (g1.alloc (.row [.slc none 0 true] 1 false)) :=
    ⟨r1.quiet q1.wf (Quiet.alloc q1.wf _), ⟨none, true, [], Hp.get_alloc_self, Own.nil _ _, rfl, by simp⟩, by simp; omega, by simp; omega, fun j hj => by rw [Hp.get_alloc_ne (by omega), q1.same j hj], q1.wf.alloc, by simp (disch := (first | omega | (simp only [Hp.alloc_next, Hp.set_next] <;> omega) | (simp (disch := (first | omega | (simp only [Hp.alloc_next, Hp.set_next] <;> omega) | fail)) only [Hp.get_set_self, Hp.get_set_ne, Hp.get_alloc_self, Hp.get_alloc_ne, Hp.get_alloc_at, Hp.get_set_at, Hp.set_next, Hp.alloc_next]; done) | fail)) only [Hp.st, Hp.ld, Hp.lda, splice, ble_eq', if_true, if_false, ite_true, ite_false, cond_true, cond_false, decide_true, decide_false, List.length_cons, List.length_nil, List.take_zero, List.take_succ_cons, List.nil_append, List.cons_append, List.append_nil, List.drop_succ_cons, List.drop_zero, List.drop_nil, List.getElem?_cons_succ, List.getElem?_cons_zero, Nat.reduceAdd, Nat.reduceLeDiff, Nat.reduceEqDiff, Nat.zero_add, Nat.add_zero, Nat.le_refl, Nat.zero_le, Nat.succ_ne_self, Nat.mul_one, Int.toNat_natCast, Option.some.injEq, Option.isNone_some, Option.isNone_none, V.int.injEq, V.str.injEq, V.bool.injEq, V.ptr.injEq, V.slc.injEq, V.map.injEq, V.agg.injEq, V.tup.injEq, List.cons.injEq, Prod.mk.injEq, onS, true_and, and_true, and_assoc, exists_and_left, exists_eq_left', forall_eq, heq_eq_eq, reduceCtorEq, Bool.not_true, Bool.not_false, eq_self, not_false_eq_true, Nat.left_eq_add, Nat.add_eq_left, Nat.add_left_cancel_iff, Nat.add_right_cancel_iff, Nat.reduceEqDiff, Nat.one_ne_zero, Hp.get_set_self, Hp.get_set_ne, Hp.get_alloc_self, Hp.get_alloc_ne, Hp.get_alloc_at, Hp.get_set_at, Hp.set_next, Hp.alloc_next, Option.some_ne_none, V.tup.injEq, Option.isSome_some, Option.isSome_none, exists_eq_left, exists_eq, Nat.mul_zero]; omega⟩
  have s0 : Ports.St [] [] := ⟨.refl _, .nil, by simp⟩
  generalize hpp : h0.next + 1 = p at *
  generalize hqq : h0.next = q at *
  generalize hmm : g1.next = r at *
  refine ⟨fun vs g => match vs with
    | [.int _ i] => ∃ (k : Nat) (L R : List (Int × Bd)) (F : List Nat), i = k ∧ k ≤ n ∧ PJ h0 p q r L R F g ∧ Ports.St L R
    | _ => False, fun vs _ => match vs with
    | [.int _ i] => n - i.toNat
    | _ => 0, ⟨by trivial, 0, [], [], _, rfl, by omega, j0, s0⟩, ?_⟩
  rintro bs i g ⟨k, L, R, F, rfl, hkn, j1, s1⟩
  cases hi : ltI (↑k) (↑n) with
  | false => exact works_spec fun _ => ⟨true, rfl, KT _⟩
  | true =>
  rw [ltI_eq, decide_eq_true_eq] at hi
  have hkn' : k < n := by omega
  have keeps : ∀ {L R : List (Int × Bd)} {F : List Nat} {g : Hp}, PJ h0 p q r L R F g → h.keeps g := fun j x c e hq => by
    have := hw.lt hq
    have := q0.le
    rw [j.same x (by omega), q0.same x (by omega)]; exact hq
  obtain ⟨qa, row, rfl, hrow, hld, hlda⟩ := ha.ld (keeps j1) hkn' hz
  obtain ⟨dow, w, ow, bk, bi, bp, bsh, dr, rfl⟩ := step_form (hr row (List.mem_of_getElem? hrow))
  have hfit := (hr0 _ (List.mem_of_getElem? hrow)).2
  have hw1 : IntKind.i64.wrap ((k : Int) + 1) = ((k + 1 : Nat) : Int) := wrap_succ (n := n) (by omega) (by omega)
  have hdr : 0 ≤ dr ∧ dr < 65536 := by
    have := hfit (.int .u16 dr) (by simp)
    simp [V.fits, IntKind.min, IntKind.max, IntKind.signed, IntKind.bits] at this
    omega
  refine ⟨⟨by omega, hi⟩, dow, w, ow, bk, bi, bp, bsh, dr, hlda, ?_⟩
  refine (does_spec j1 s1 hdr).mono ?_
  rintro _ g3 ⟨rfl, L3, R3, F3, j3, s3⟩
  refine ⟨_, rfl, ?_⟩
  simp only [Bool.not_true, cond_false]
  obtain ⟨ra, rf, rg, rel⟩ := j3.re.hd
  refine ⟨ra, R3.length, rf, by simp (disch := (first | omega | (simp only [Hp.alloc_next, Hp.set_next] <;> omega) | (simp (disch := (first | omega | (simp only [Hp.alloc_next, Hp.set_next] <;> omega) | fail)) only [Hp.get_set_self, Hp.get_set_ne, Hp.get_alloc_self, Hp.get_alloc_ne, Hp.get_alloc_at, Hp.get_set_at, Hp.set_next, Hp.alloc_next, rg]; done) | fail)) only [Hp.st, Hp.ld, Hp.lda, splice, ble_eq', if_true, if_false, ite_true, ite_false, cond_true, cond_false, decide_true, decide_false, List.length_cons, List.length_nil, List.take_zero, List.take_succ_cons, List.nil_append, List.cons_append, List.append_nil, List.drop_succ_cons, List.drop_zero, List.drop_nil, List.getElem?_cons_succ, List.getElem?_cons_zero, Nat.reduceAdd, Nat.reduceLeDiff, Nat.reduceEqDiff, Nat.zero_add, Nat.add_zero, Nat.le_refl, Nat.zero_le, Nat.succ_ne_self, Nat.mul_one, Int.toNat_natCast, Option.some.injEq, Option.isNone_some, Option.isNone_none, V.int.injEq, V.str.injEq, V.bool.injEq, V.ptr.injEq, V.slc.injEq, V.map.injEq, V.agg.injEq, V.tup.injEq, List.cons.injEq, Prod.mk.injEq, onS, true_and, and_true, and_assoc, exists_and_left, exists_eq_left', forall_eq, heq_eq_eq, reduceCtorEq, Bool.not_true, Bool.not_false, eq_self, not_false_eq_true, Nat.left_eq_add, Nat.add_eq_left, Nat.add_left_cancel_iff, Nat.add_right_cancel_iff, Nat.reduceEqDiff, Nat.one_ne_zero, Hp.get_set_self, Hp.get_set_ne, Hp.get_alloc_self, Hp.get_alloc_ne, Hp.get_alloc_at, Hp.get_set_at, Hp.set_next, Hp.alloc_next, Option.some_ne_none, V.tup.injEq, Option.isSome_some, Option.isSome_none, exists_eq_left, exists_eq, Nat.mul_zero, rg], ?_⟩
  refine (len_spec j3.po).mono ?_
  rintro _ _ ⟨rfl, rfl⟩
  rename_i g3
  refine ⟨_, rfl, by trivial, ⟨ra, R3.length, rf, by simp (disch := (first | omega | (simp only [Hp.alloc_next, Hp.set_next] <;> omega) | (simp (disch := (first | omega | (simp only [Hp.alloc_next, Hp.set_next] <;> omega) | fail)) only [Hp.get_set_self, Hp.get_set_ne, Hp.get_alloc_self, Hp.get_alloc_ne, Hp.get_alloc_at, Hp.get_set_at, Hp.set_next, Hp.alloc_next, rg]; done) | fail)) only [Hp.st, Hp.ld, Hp.lda, splice, ble_eq', if_true, if_false, ite_true, ite_false, cond_true, cond_false, decide_true, decide_false, List.length_cons, List.length_nil, List.take_zero, List.take_succ_cons, List.nil_append, List.cons_append, List.append_nil, List.drop_succ_cons, List.drop_zero, List.drop_nil, List.getElem?_cons_succ, List.getElem?_cons_zero, Nat.reduceAdd, Nat.reduceLeDiff, Nat.reduceEqDiff, Nat.zero_add, Nat.add_zero, Nat.le_refl, Nat.zero_le, Nat.succ_ne_self, Nat.mul_one, Int.toNat_natCast, Option.some.injEq, Option.isNone_some, Option.isNone_none, V.int.injEq, V.str.injEq, V.bool.injEq, V.ptr.injEq, V.slc.injEq, V.map.injEq, V.agg.injEq, V.tup.injEq, List.cons.injEq, Prod.mk.injEq, onS, true_and, and_true, and_assoc, exists_and_left, exists_eq_left', forall_eq, heq_eq_eq, reduceCtorEq, Bool.not_true, Bool.not_false, eq_self, not_false_eq_true, Nat.left_eq_add, Nat.add_eq_left, Nat.add_left_cancel_iff, Nat.add_right_cancel_iff, Nat.reduceEqDiff, Nat.one_ne_zero, Hp.get_set_self, Hp.get_set_ne, Hp.get_alloc_self, Hp.get_alloc_ne, Hp.get_alloc_at, Hp.get_set_at, Hp.set_next, Hp.alloc_next, Option.some_ne_none, V.tup.injEq, Option.isSome_some, Option.isSome_none, exists_eq_left, exists_eq, Nat.mul_zero, rg], rfl⟩, by trivial, by trivial, by trivial, ?_⟩
  have e3 : ((L3.length : Int) != (R3.length : Int)) = false := by rw [s3.llen, bne_self_eq_false]
  rw [e3]
  simp only [cond_false]
  obtain ⟨qa1, row1, e1, hrow1, hld1, _⟩ := ha.ld (keeps j3) hkn' hz
  rw [hrow] at hrow1
  cases e1
  cases hrow1
  have tk : ((k : Int)).toNat = k := by omega
  refine ⟨⟨by omega, hi⟩, w, by rw [tk]; exact hld1 1 (by omega), ?_⟩
  refine (of_spec j3.wf j3.po).mono ?_
  rintro _ g4 ⟨rfl, q4⟩
  have j4 := j3.quiet q4
  refine ⟨_, _, _, _, _, rfl, ?_⟩
  rintro g5 rfl
  obtain ⟨x, hx⟩ : ∃ x, (mget L3 w).getD b0 = x := ⟨_, rfl⟩
  rw [hx]
  refine ⟨_, Hp.st_of Hp.get_alloc_self (Nat.le_of_ble_eq_true rfl), ?_⟩
  obtain ⟨g6, hg6⟩ : ∃ g6, g6 = (g4.alloc (.row [.int .u8 0, .int .u32 0, .int .u16 0, .bool false] 1 false)).set g4.next (.row (splice [.int .u8 0, .int .u32 0, .int .u16 0, .bool false] 0 [.int .u8 x.kind, .int .u32 x.ip, .int .u16 x.port, .bool x.share]) 1 false) := ⟨_, rfl⟩
  rw [← hg6]
  have c6 : g6.get g4.next = some (.row [.int .u8 x.kind, .int .u32 x.ip, .int .u16 x.port, .bool x.share] 1 false) := by rw [hg6, Hp.get_set_self]; rfl
  have q6 : Quiet g4 g6 := by rw [hg6]; exact ⟨fun j hj => by simp (disch := (first | omega | (simp only [Hp.alloc_next, Hp.set_next] <;> omega) | (simp (disch := (first | omega | (simp only [Hp.alloc_next, Hp.set_next] <;> omega) | fail)) only [Hp.get_set_self, Hp.get_set_ne, Hp.get_alloc_self, Hp.get_alloc_ne, Hp.get_alloc_at, Hp.get_set_at, Hp.set_next, Hp.alloc_next]; done) | fail)) only [Hp.st, Hp.ld, Hp.lda, splice, ble_eq', if_true, if_false, ite_true, ite_false, cond_true, cond_false, decide_true, decide_false, List.length_cons, List.length_nil, List.take_zero, List.take_succ_cons, List.nil_append, List.cons_append, List.append_nil, List.drop_succ_cons, List.drop_zero, List.drop_nil, List.getElem?_cons_succ, List.getElem?_cons_zero, Nat.reduceAdd, Nat.reduceLeDiff, Nat.reduceEqDiff, Nat.zero_add, Nat.add_zero, Nat.le_refl, Nat.zero_le, Nat.succ_ne_self, Nat.mul_one, Int.toNat_natCast, Option.some.injEq, Option.isNone_some, Option.isNone_none, V.int.injEq, V.str.injEq, V.bool.injEq, V.ptr.injEq, V.slc.injEq, V.map.injEq, V.agg.injEq, V.tup.injEq, List.cons.injEq, Prod.mk.injEq, onS, true_and, and_true, and_assoc, exists_and_left, exists_eq_left', forall_eq, heq_eq_eq, reduceCtorEq, Bool.not_true, Bool.not_false, eq_self, not_false_eq_true, Nat.left_eq_add, Nat.add_eq_left, Nat.add_left_cancel_iff, Nat.add_right_cancel_iff, Nat.reduceEqDiff, Nat.one_ne_zero, Hp.get_set_self, Hp.get_set_ne, Hp.get_alloc_self, Hp.get_alloc_ne, Hp.get_alloc_at, Hp.get_set_at, Hp.set_next, Hp.alloc_next, Option.some_ne_none, V.tup.injEq, Option.isSome_some, Option.isSome_none, exists_eq_left, exists_eq, Nat.mul_zero], by simp (disch := (first | omega | (simp only [Hp.alloc_next, Hp.set_next] <;> omega) | (simp (disch := (first | omega | (simp only [Hp.alloc_next, Hp.set_next] <;> omega) | fail)) only [Hp.get_set_self, Hp.get_set_ne, Hp.get_alloc_self, Hp.get_alloc_ne, Hp.get_alloc_at, Hp.get_set_at, Hp.set_next, Hp.alloc_next]; done) | fail)) only [Hp.st, Hp.ld, Hp.lda, splice, ble_eq', if_true, if_false, ite_true, ite_false, cond_true, cond_false, decide_true, decide_false, List.length_cons, List.length_nil, List.take_zero, List.take_succ_cons, List.nil_append, List.cons_append, List.append_nil, List.drop_succ_cons, List.drop_zero, List.drop_nil, List.getElem?_cons_succ, List.getElem?_cons_zero, Nat.reduceAdd, Nat.reduceLeDiff, Nat.reduceEqDiff, Nat.zero_add, Nat.add_zero, Nat.le_refl, Nat.zero_le, Nat.succ_ne_self, Nat.mul_one, Int.toNat_natCast, Option.some.injEq, Option.isNone_some, Option.isNone_none, V.int.injEq, V.str.injEq, V.bool.injEq, V.ptr.injEq, V.slc.injEq, V.map.injEq, V.agg.injEq, V.tup.injEq, List.cons.injEq, Prod.mk.injEq, onS, true_and, and_true, and_assoc, exists_and_left, exists_eq_left', forall_eq, heq_eq_eq, reduceCtorEq, Bool.not_true, Bool.not_false, eq_self, not_false_eq_true, Nat.left_eq_add, Nat.add_eq_left, Nat.add_left_cancel_iff, Nat.add_right_cancel_iff, Nat.reduceEqDiff, Nat.one_ne_zero, Hp.get_set_self, Hp.get_set_ne, Hp.get_alloc_self, Hp.get_alloc_ne, Hp.get_alloc_at, Hp.get_set_at, Hp.set_next, Hp.alloc_next, Option.some_ne_none, V.tup.injEq, Option.isSome_some, Option.isSome_none, exists_eq_left, exists_eq, Nat.mul_zero]; omega, j4.wf.alloc.set (Nat.lt_succ_self _)⟩
  clear hg6
  have j6 := j4.quiet q6
  obtain ⟨qa2, row2, e2, hrow2, hld2, _⟩ := ha.ld (keeps j6) hkn' hz
  rw [hrow] at hrow2
  cases e2
  cases hrow2
  refine ⟨⟨by omega, hi⟩, w, by rw [tk]; exact hld2 1 (by omega), ?_⟩
  refine (rat_spec j6.re s3.len).mono ?_
  rintro _ g7 ⟨at', rfl, rfl, hat⟩
  refine ⟨_, rfl, fun vs g' => match vs with
    | [] => g' = g7
    | _ => False, ?_, ?_⟩
  · rcases hat with ⟨rfl, hno⟩ | ⟨m, b, rfl, hm⟩
    · have hN : mget L3 w = none := mget_no fun y hy => hno y (s3.perm.mem_iff.1 hy)
      have hx0 : x = b0 := by rw [← hx, hN]; rfl
      rw [hN]
      refine ⟨x.kind, x.ip, x.port, x.share, by simp (disch := (first | omega | (simp only [Hp.alloc_next, Hp.set_next] <;> omega) | (simp (disch := (first | omega | (simp only [Hp.alloc_next, Hp.set_next] <;> omega) | fail)) only [Hp.get_set_self, Hp.get_set_ne, Hp.get_alloc_self, Hp.get_alloc_ne, Hp.get_alloc_at, Hp.get_set_at, Hp.set_next, Hp.alloc_next, c6]; done) | fail)) only [Hp.st, Hp.ld, Hp.lda, splice, ble_eq', if_true, if_false, ite_true, ite_false, cond_true, cond_false, decide_true, decide_false, List.length_cons, List.length_nil, List.take_zero, List.take_succ_cons, List.nil_append, List.cons_append, List.append_nil, List.drop_succ_cons, List.drop_zero, List.drop_nil, List.getElem?_cons_succ, List.getElem?_cons_zero, Nat.reduceAdd, Nat.reduceLeDiff, Nat.reduceEqDiff, Nat.zero_add, Nat.add_zero, Nat.le_refl, Nat.zero_le, Nat.succ_ne_self, Nat.mul_one, Int.toNat_natCast, Option.some.injEq, Option.isNone_some, Option.isNone_none, V.int.injEq, V.str.injEq, V.bool.injEq, V.ptr.injEq, V.slc.injEq, V.map.injEq, V.agg.injEq, V.tup.injEq, List.cons.injEq, Prod.mk.injEq, onS, true_and, and_true, and_assoc, exists_and_left, exists_eq_left', forall_eq, heq_eq_eq, reduceCtorEq, Bool.not_true, Bool.not_false, eq_self, not_false_eq_true, Nat.left_eq_add, Nat.add_eq_left, Nat.add_left_cancel_iff, Nat.add_right_cancel_iff, Nat.reduceEqDiff, Nat.one_ne_zero, Hp.get_set_self, Hp.get_set_ne, Hp.get_alloc_self, Hp.get_alloc_ne, Hp.get_alloc_at, Hp.get_set_at, Hp.set_next, Hp.alloc_next, Option.some_ne_none, V.tup.injEq, Option.isSome_some, Option.isSome_none, exists_eq_left, exists_eq, Nat.mul_zero, c6], ?_⟩
      rw [hx0]
      exact ⟨by trivial, rfl⟩
    · have hS := s3.get hm
      have hxb : x = b := by rw [← hx, hS]; rfl
      rw [hS]
      have c : ltI (↑m) 0 = false := by rw [ltI_eq, decide_eq_false_iff_not]; omega
      rw [c]
      have hml := (List.getElem?_eq_some_iff.1 hm).1
      obtain ⟨ra, rf, rg, rel⟩ := j6.re.hd
      obtain ⟨rq, ro, rfl, _, hl2⟩ := rel m _ hm
      refine ⟨x.kind, x.ip, x.port, x.share, by simp (disch := (first | omega | (simp only [Hp.alloc_next, Hp.set_next] <;> omega) | (simp (disch := (first | omega | (simp only [Hp.alloc_next, Hp.set_next] <;> omega) | fail)) only [Hp.get_set_self, Hp.get_set_ne, Hp.get_alloc_self, Hp.get_alloc_ne, Hp.get_alloc_at, Hp.get_set_at, Hp.set_next, Hp.alloc_next, c6]; done) | fail)) only [Hp.st, Hp.ld, Hp.lda, splice, ble_eq', if_true, if_false, ite_true, ite_false, cond_true, cond_false, decide_true, decide_false, List.length_cons, List.length_nil, List.take_zero, List.take_succ_cons, List.nil_append, List.cons_append, List.append_nil, List.drop_succ_cons, List.drop_zero, List.drop_nil, List.getElem?_cons_succ, List.getElem?_cons_zero, Nat.reduceAdd, Nat.reduceLeDiff, Nat.reduceEqDiff, Nat.zero_add, Nat.add_zero, Nat.le_refl, Nat.zero_le, Nat.succ_ne_self, Nat.mul_one, Int.toNat_natCast, Option.some.injEq, Option.isNone_some, Option.isNone_none, V.int.injEq, V.str.injEq, V.bool.injEq, V.ptr.injEq, V.slc.injEq, V.map.injEq, V.agg.injEq, V.tup.injEq, List.cons.injEq, Prod.mk.injEq, onS, true_and, and_true, and_assoc, exists_and_left, exists_eq_left', forall_eq, heq_eq_eq, reduceCtorEq, Bool.not_true, Bool.not_false, eq_self, not_false_eq_true, Nat.left_eq_add, Nat.add_eq_left, Nat.add_left_cancel_iff, Nat.add_right_cancel_iff, Nat.reduceEqDiff, Nat.one_ne_zero, Hp.get_set_self, Hp.get_set_ne, Hp.get_alloc_self, Hp.get_alloc_ne, Hp.get_alloc_at, Hp.get_set_at, Hp.set_next, Hp.alloc_next, Option.some_ne_none, V.tup.injEq, Option.isSome_some, Option.isSome_none, exists_eq_left, exists_eq, Nat.mul_zero, c6], some (rq, ro), R3.length, rf, by simp (disch := (first | omega | (simp only [Hp.alloc_next, Hp.set_next] <;> omega) | (simp (disch := (first | omega | (simp only [Hp.alloc_next, Hp.set_next] <;> omega) | fail)) only [Hp.get_set_self, Hp.get_set_ne, Hp.get_alloc_self, Hp.get_alloc_ne, Hp.get_alloc_at, Hp.get_set_at, Hp.set_next, Hp.alloc_next, rg]; done) | fail)) only [Hp.st, Hp.ld, Hp.lda, splice, ble_eq', if_true, if_false, ite_true, ite_false, cond_true, cond_false, decide_true, decide_false, List.length_cons, List.length_nil, List.take_zero, List.take_succ_cons, List.nil_append, List.cons_append, List.append_nil, List.drop_succ_cons, List.drop_zero, List.drop_nil, List.getElem?_cons_succ, List.getElem?_cons_zero, Nat.reduceAdd, Nat.reduceLeDiff, Nat.reduceEqDiff, Nat.zero_add, Nat.add_zero, Nat.le_refl, Nat.zero_le, Nat.succ_ne_self, Nat.mul_one, Int.toNat_natCast, Option.some.injEq, Option.isNone_some, Option.isNone_none, V.int.injEq, V.str.injEq, V.bool.injEq, V.ptr.injEq, V.slc.injEq, V.map.injEq, V.agg.injEq, V.tup.injEq, List.cons.injEq, Prod.mk.injEq, onS, true_and, and_true, and_assoc, exists_and_left, exists_eq_left', forall_eq, heq_eq_eq, reduceCtorEq, Bool.not_true, Bool.not_false, eq_self, not_false_eq_true, Nat.left_eq_add, Nat.add_eq_left, Nat.add_left_cancel_iff, Nat.add_right_cancel_iff, Nat.reduceEqDiff, Nat.one_ne_zero, Hp.get_set_self, Hp.get_set_ne, Hp.get_alloc_self, Hp.get_alloc_ne, Hp.get_alloc_at, Hp.get_set_at, Hp.set_next, Hp.alloc_next, Option.some_ne_none, V.tup.injEq, Option.isSome_some, Option.isSome_none, exists_eq_left, exists_eq, Nat.mul_zero, rg], ⟨by omega, by omega⟩, b.kind, b.ip, b.port, b.share, hl2, ?_⟩
      rw [hxb]
      simp only [beq_self_eq_true, Bool.and_self, Bool.not_true, cond_false, Option.isSome_some, Bool.and_true]
      exact ⟨by trivial, by trivial⟩
  rintro bs2 g8 rfl
  have ca8 : g8.get h.next = some (.row [.int .u32 ip, .int .u16 port] 1 false) := by rw [j6.same _ (by omega)]; exact ca
  refine ⟨ip, port, by simp (disch := (first | omega | (simp only [Hp.alloc_next, Hp.set_next] <;> omega) | (simp (disch := (first | omega | (simp only [Hp.alloc_next, Hp.set_next] <;> omega) | fail)) only [Hp.get_set_self, Hp.get_set_ne, Hp.get_alloc_self, Hp.get_alloc_ne, Hp.get_alloc_at, Hp.get_set_at, Hp.set_next, Hp.alloc_next, ca8]; done) | fail)) only [Hp.st, Hp.ld, Hp.lda, splice, ble_eq', if_true, if_false, ite_true, ite_false, cond_true, cond_false, decide_true, decide_false, List.length_cons, List.length_nil, List.take_zero, List.take_succ_cons, List.nil_append, List.cons_append, List.append_nil, List.drop_succ_cons, List.drop_zero, List.drop_nil, List.getElem?_cons_succ, List.getElem?_cons_zero, Nat.reduceAdd, Nat.reduceLeDiff, Nat.reduceEqDiff, Nat.zero_add, Nat.add_zero, Nat.le_refl, Nat.zero_le, Nat.succ_ne_self, Nat.mul_one, Int.toNat_natCast, Option.some.injEq, Option.isNone_some, Option.isNone_none, V.int.injEq, V.str.injEq, V.bool.injEq, V.ptr.injEq, V.slc.injEq, V.map.injEq, V.agg.injEq, V.tup.injEq, List.cons.injEq, Prod.mk.injEq, onS, true_and, and_true, and_assoc, exists_and_left, exists_eq_left', forall_eq, heq_eq_eq, reduceCtorEq, Bool.not_true, Bool.not_false, eq_self, not_false_eq_true, Nat.left_eq_add, Nat.add_eq_left, Nat.add_left_cancel_iff, Nat.add_right_cancel_iff, Nat.reduceEqDiff, Nat.one_ne_zero, Hp.get_set_self, Hp.get_set_ne, Hp.get_alloc_self, Hp.get_alloc_ne, Hp.get_alloc_at, Hp.get_set_at, Hp.set_next, Hp.alloc_next, Option.some_ne_none, V.tup.injEq, Option.isSome_some, Option.isSome_none, exists_eq_left, exists_eq, Nat.mul_zero, ca8], ip, port, by simp (disch := (first | omega | (simp only [Hp.alloc_next, Hp.set_next] <;> omega) | (simp (disch := (first | omega | (simp only [Hp.alloc_next, Hp.set_next] <;> omega) | fail)) only [Hp.get_set_self, Hp.get_set_ne, Hp.get_alloc_self, Hp.get_alloc_ne, Hp.get_alloc_at, Hp.get_set_at, Hp.set_next, Hp.alloc_next, ca8]; done) | fail)) only [Hp.st, Hp.ld, Hp.lda, splice, ble_eq', if_true, if_false, ite_true, ite_false, cond_true, cond_false, decide_true, decide_false, List.length_cons, List.length_nil, List.take_zero, List.take_succ_cons, List.nil_append, List.cons_append, List.append_nil, List.drop_succ_cons, List.drop_zero, List.drop_nil, List.getElem?_cons_succ, List.getElem?_cons_zero, Nat.reduceAdd, Nat.reduceLeDiff, Nat.reduceEqDiff, Nat.zero_add, Nat.add_zero, Nat.le_refl, Nat.zero_le, Nat.succ_ne_self, Nat.mul_one, Int.toNat_natCast, Option.some.injEq, Option.isNone_some, Option.isNone_none, V.int.injEq, V.str.injEq, V.bool.injEq, V.ptr.injEq, V.slc.injEq, V.map.injEq, V.agg.injEq, V.tup.injEq, List.cons.injEq, Prod.mk.injEq, onS, true_and, and_true, and_assoc, exists_and_left, exists_eq_left', forall_eq, heq_eq_eq, reduceCtorEq, Bool.not_true, Bool.not_false, eq_self, not_false_eq_true, Nat.left_eq_add, Nat.add_eq_left, Nat.add_left_cancel_iff, Nat.add_right_cancel_iff, Nat.reduceEqDiff, Nat.one_ne_zero, Hp.get_set_self, Hp.get_set_ne, Hp.get_alloc_self, Hp.get_alloc_ne, Hp.get_alloc_at, Hp.get_set_at, Hp.set_next, Hp.alloc_next, Option.some_ne_none, V.tup.injEq, Option.isSome_some, Option.isSome_none, exists_eq_left, exists_eq, Nat.mul_zero, ca8], ?_⟩
  refine (at_spec j6.wf j6.po (by have := s3.llen; have := s3.len; omega)).mono ?_
  rintro _ g9 ⟨a5, n5, f5, l, G, rfl, hp, hs, hO, hG, q9⟩
  have j9 := j6.quiet q9
  have ca9 : g9.get h.next = some (.row [.int .u32 ip, .int .u16 port] 1 false) := by rw [j9.same _ (by omega)]; exact ca
  refine ⟨_, _, _, rfl, ⟨ip, port, by simp (disch := (first | omega | (simp only [Hp.alloc_next, Hp.set_next] <;> omega) | (simp (disch := (first | omega | (simp only [Hp.alloc_next, Hp.set_next] <;> omega) | fail)) only [Hp.get_set_self, Hp.get_set_ne, Hp.get_alloc_self, Hp.get_alloc_ne, Hp.get_alloc_at, Hp.get_set_at, Hp.set_next, Hp.alloc_next, ca9]; done) | fail)) only [Hp.st, Hp.ld, Hp.lda, splice, ble_eq', if_true, if_false, ite_true, ite_false, cond_true, cond_false, decide_true, decide_false, List.length_cons, List.length_nil, List.take_zero, List.take_succ_cons, List.nil_append, List.cons_append, List.append_nil, List.drop_succ_cons, List.drop_zero, List.drop_nil, List.getElem?_cons_succ, List.getElem?_cons_zero, Nat.reduceAdd, Nat.reduceLeDiff, Nat.reduceEqDiff, Nat.zero_add, Nat.add_zero, Nat.le_refl, Nat.zero_le, Nat.succ_ne_self, Nat.mul_one, Int.toNat_natCast, Option.some.injEq, Option.isNone_some, Option.isNone_none, V.int.injEq, V.str.injEq, V.bool.injEq, V.ptr.injEq, V.slc.injEq, V.map.injEq, V.agg.injEq, V.tup.injEq, List.cons.injEq, Prod.mk.injEq, onS, true_and, and_true, and_assoc, exists_and_left, exists_eq_left', forall_eq, heq_eq_eq, reduceCtorEq, Bool.not_true, Bool.not_false, eq_self, not_false_eq_true, Nat.left_eq_add, Nat.add_eq_left, Nat.add_left_cancel_iff, Nat.add_right_cancel_iff, Nat.reduceEqDiff, Nat.one_ne_zero, Hp.get_set_self, Hp.get_set_ne, Hp.get_alloc_self, Hp.get_alloc_ne, Hp.get_alloc_at, Hp.get_set_at, Hp.set_next, Hp.alloc_next, Option.some_ne_none, V.tup.injEq, Option.isSome_some, Option.isSome_none, exists_eq_left, exists_eq, Nat.mul_zero, ca9], rfl⟩, by trivial, by trivial, ?_⟩
  refine (rwho_spec j9.wf j9.re s3.len).mono ?_
  rintro _ g10 ⟨a6, n6, f6, G6, rfl, hO6, hG6, q10⟩
  refine ⟨_, _, _, rfl, ?_⟩
  have hl := s3.who hp hs
  subst hl
  obtain ⟨l, hl⟩ : ∃ l, l = whoL R3 kd ip port := ⟨_, rfl⟩
  rw [← hl] at hO hO6
  have e5 : l.length = n5 := by have := hO.1; simpa using this
  have e6 : l.length = n6 := by have := hO6.1; simpa [uL] using this
  have hO' : Own 1 a5 n5 (uL l) g10 G := (Own.rep _ _ _ _).stay j9.wf hO q10.same
  have c : ((n5 : Int) != (n6 : Int)) = false := by rw [← e5, ← e6, bne_self_eq_false]
  rw [c]
  simp only [cond_false]
  have j10 := j9.quiet q10
  have hR := s3.len
  have hll : l.length ≤ R3.length := by
    rw [hl]; unfold whoL; split <;> (unfold atL; rw [List.length_map]; exact List.length_filter_le _ _)
  refine ⟨fun vs g' => match vs with
    | [.int _ i] => g' = g10 ∧ ∃ m : Nat, i = m ∧ m ≤ n5
    | _ => False, fun vs _ => match vs with
    | [.int _ i] => n5 - i.toNat
    | _ => 0, ⟨by trivial, rfl, 0, rfl, by omega⟩, ?_⟩
  rintro bs3 i3 g11 ⟨rfl, m, rfl, hm⟩
  cases hi3 : ltI (↑m) (↑n5) with
  | false =>
    rw [hw1]
    exact ⟨by trivial, ⟨k + 1, L3, R3, F3, rfl, by omega, j10, s3⟩, by simp only [Int.toNat_natCast]; omega⟩
  | true =>
    rw [ltI_eq, decide_eq_true_eq] at hi3
    have hm' : m < n5 := by omega
    obtain ⟨y, hy⟩ : ∃ y, l[m]? = some y := ⟨_, List.getElem?_eq_getElem (by omega)⟩
    obtain ⟨q5, o5, rfl, hl5⟩ := own_ld hO' hy
    obtain ⟨q6, o6, rfl, hl6⟩ := own_ld hO6 hy
    refine ⟨⟨by omega, hi3⟩, y, hl5, ⟨by omega, by omega⟩, y, hl6, ?_⟩
    have hw3 : IntKind.i64.wrap ((m : Int) + 1) = ((m + 1 : Nat) : Int) := wrap_succ (n := n5) hm' (by omega)
    rw [hw3]
    simp only [bne_self_eq_false, cond_false]
    exact ⟨by trivial, ⟨by trivial, m + 1, rfl, by omega⟩, by simp only [Int.toNat_natCast]; omega⟩
end Go.Vex.PortsPlay

namespace Go.Proofs.Ytehihinmgejpaaa.portsPlay
open Go.ChangeShapes Go.WideShapes Go.ChangeAt Go.RowKit Go.Vex Go.Vex.PortsPlay
open Go.ChangeMaps (open_string shut_string)

theorem own : ownKnob Try.prog.godebug = none := by kernel_rfl

set_option maxRecDepth 100000 in
theorem lifted (os : Os) (started : os.Started) (H : Type) (enc : TypeId × Value → H) :
    ReturnsInHanded {} Try.checked os 3 .any (Rows.portsPlaySpec.pre6 enc Try.prog Try.f3 Rows.portsPlayRow.domain false) (Rows.portsPlaySpec.post enc Try.prog Try.f3 false true false false) := by
  refine returnsInHanded_of_change_sized (C := Try.checked) own started (by kernel_rfl) Try.func3
    (ChangeSpec.witness6 (enc := enc) (C := Try.checked) false ⟨#[], #[.slice none 0 0, .int .u8 0, .agg #[.int .u32 0, .int .u16 0]], []⟩ 8 (by kernel_rfl) (by kernel_rfl) (by kernel_rfl) (by kernel_rfl)) ?_
  intro W base args ds gs before hval0 hW hcnd hsz _
  have hval : ∀ (j : Nat) t v, Try.f3.params[j]? = some t → args[j]? = some v → Value.okWide Try.prog W .any base t v := hval0
  have hW' := hW
  obtain ⟨p, q, hA0, hV, rfl, hfz, hnd⟩ := hW
  have hA : DataW.TrodAll enc Try.prog W 0 (fun _ => true) true Try.f3.params.toList args.toList ds p := hA0
  rw [Try.params3] at hA hval hsz
  obtain ⟨v0, vs0, d0, ds0, p0, q0, hargs, rfl, rfl, h0, r0⟩ := trodAll_cons hA
  obtain ⟨v1, vs1, d1, ds1, p1, q1, rfl, rfl, rfl, h1, r1⟩ := trodAll_cons r0
  obtain ⟨v2, vs2, d2, ds2, p2, q2, rfl, rfl, rfl, h2, r2⟩ := trodAll_cons r1
  obtain ⟨rfl, rfl, rfl⟩ := trodAll_nil r2
  obtain rfl : args = #[v0, v1, v2] := by cases args; simp_all
  obtain ⟨rfl, rfl⟩ := trodVars_none hV
  obtain ⟨ρ0, hp0, b0, n0, f0, rows0, s0, x0, l0, k0, vr0, ro0, sh0, z0⟩ := arg_slice tok (T := Vex.T) (t := 22) (e := 39) (d := 6) (zs := stepZ) rfl rfl rfl rfl rfl (by decide) (hval 0 22 v0 rfl rfl) h0 (fun m hm => hW'.lt m (by simp [hm])) (fun m hm => by simpa using List.all_eq_true.1 hsz m (DataW.weights_mem_each (j := 0) (t := 22) rfl rfl m hm)) (Sat.none W fun _ => ⟨0, 0, 0, 0⟩)
  obtain ⟨a1, rfl, rfl, rfl, w1⟩ := open_int Try.underlying5 (hval 1 5 v1 rfl rfl) h1
  obtain ⟨cs2, rfl, hsz2, hc2⟩ := open_flat Try.underlying26 (ts := [23, 24]) (by kernel_rfl) (by kernel_rfl) (hval 2 26 v2 rfl rfl)
  obtain ⟨x2_0, hx2_0, ok2_0⟩ := hc2 0 23 rfl
  obtain ⟨a2_0, rfl, b2_0⟩ := cell_intB Try.underlying23 ok2_0
  obtain ⟨x2_1, hx2_1, ok2_1⟩ := hc2 1 24 rfl
  obtain ⟨a2_1, rfl, b2_1⟩ := cell_intB Try.underlying24 ok2_1
  obtain rfl := arr_of (l := [.int .u32 a2_0, .int .u16 a2_1]) hsz2 (fun j x hj => by
    match j, hj with
    | 0, hj => cases hj; exact hx2_0
    | 1, hj => cases hj; exact hx2_1
    | j + 2, hj => simp at hj)
  refine (XCalls.true' s0 (vs := [.slc b0 n0 f0, .int .u8 a1, .agg [.int .u32 a2_0, .int .u16 a2_1]]) ⟨_, _, rfl, vr0, ⟨_, _, rfl, rfl, ⟨_, _, rfl, ⟨_, rfl, ⟨_, _, rfl, rfl, ⟨_, _, rfl, rfl, rfl⟩⟩⟩, rfl⟩⟩⟩ (law_calls ro0 sh0 z0 a1 w1 a2_0 b2_0 a2_1 b2_1)).mono fun e W' ⟨he, hb⟩ => ?_
  subst he
  exact ⟨_, rfl, post_true (by kernel_rfl) hW' hb rfl (fun gs hg => by subst hg; rfl) (tb := 4) rfl Try.underlying4 (by decide +kernel)⟩

theorem over : Rows.portsPlayRow.holds Try.pinned (OpenSpec.ofChange Rows.portsPlaySpec) :=
  OpenClaim.holds_of_wide 3 Try.f3 rfl rfl rfl rfl rfl rfl rfl ⟨rfl, rfl, rfl, rfl, rfl⟩ rfl rfl rfl rfl rfl (by kernel_rfl) Try.func3 (by kernel_rfl)
    (of_decide_eq_true (by kernel_rfl)) (by unfold Func.isWrapper; first | (rw [if_pos (by decide +kernel)]; kernel_rfl) | (rw [if_neg (by decide +kernel)]; exact ⟨rfl, rfl⟩))
    (fun os started H enc _ => lifted os started H enc)

theorem proved : Rows.PortsPlaySaid :=
  over
#print axioms proved
end Go.Proofs.Ytehihinmgejpaaa.portsPlay

