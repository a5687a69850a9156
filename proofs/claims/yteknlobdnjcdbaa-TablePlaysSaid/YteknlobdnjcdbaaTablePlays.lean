/-
  TablePlays of layer 23: whatever the script, the law returns true and leaves the input as it was. No condition.
-/
import Derived.Test.YteknlobdnjcdbaaVexEE
import Derived.Test.YteknlobdnjcdbaaVexFF
import Derived.Test.YteknlobdnjcdbaaVexGG
import Derived.Test.YteknlobdnjcdbaaTab23
import Derived.Test.YteknlobdnjcdbaaXa23
import Derived.Test.YteknlobdnjcdbaaCa23
import Derived.Test.YteknlobdnjcdbaaCb23
import Derived.Test.YteknlobdnjcdbaaCc23
import Derived.Test.YteknlobdnjcdbaaCd23
import Derived.Test.YteknlobdnjcdbaaXb23
import Derived.Test.YteknlobdnjcdbaaCe23
import Derived.Test.YteknlobdnjcdbaaCf23
import Derived.Test.YteknlobdnjcdbaaXs23
import Derived.Test.YteknlobdnjcdbaaXk23
import Derived.Test.YteknlobdnjcdbaaCsx23
import Derived.Test.YteknlobdnjcdbaaCgx23
import Derived.Test.YteknlobdnjcdbaaCh23
import Derived.Test.YteknlobdnjcdbaaCi23
import Derived.Test.YteknlobdnjcdbaaCk23
import Derived.Test.YteknlobdnjcdbaaXy23
import Derived.Test.YteknlobdnjcdbaaClx23
import Derived.Test.YteknlobdnjcdbaaCpx23
import Derived.Test.YteknlobdnjcdbaaCqx23
import Derived.Test.YteknlobdnjcdbaaRows
import Derived.WalkKit
import Derived.ProofKit
import Derived.OpenShut
import Derived.KernelRfl
set_option linter.unusedVariables false
set_option linter.unusedSimpArgs false
namespace Go.Vex.TablePlays
open Go.Proofs Go.Vex.Tbl

abbrev RefR := Go.Vex.TRef.RefR
abbrev Pl := Go.Vex.TRef.Pl
abbrev LT := Go.Vex.TRef.LT
abbrev ET := Go.Vex.TRef.ET

def stepZ : List V := [.int .i64 0, .int .u32 0, .int .u16 0, .int .u32 0, .int .u16 0, .int .u32 0, .int .u16 0, .int .u64 0, .int .u64 0, .int .u32 0, .int .i64 0]

theorem step_form {r : List V} (h : shpBs stepZ r = true) : ∃ d a b c e ai ap w o hs n, r = [.int .i64 d, .int .u32 a, .int .u16 b, .int .u32 c, .int .u16 e, .int .u32 ai, .int .u16 ap, .int .u64 w, .int .u64 o, .int .u32 hs, .int .i64 n] :=
  allSs_spec stepZ r (k := fun r => ∃ d a b c e ai ap w o hs n, r = [.int .i64 d, .int .u32 a, .int .u16 b, .int .u32 c, .int .u16 e, .int .u32 ai, .int .u16 ap, .int .u64 w, .int .u64 o, .int .u32 hs, .int .i64 n]) (fun d a b c e ai ap w o hs n => ⟨d, a, b, c, e, ai, ap, w, o, hs, n, rfl⟩) h

/-- the law's heap: both tables, what the caller gave -/
structure PJ (h0 : Hp) (t r : Nat) (F G : List Nat) (S : TS) (L : LT) (E : ET) (g : Hp) : Prop where
  tab : TabR t S g F
  ref : RefR r L E g G
  same : ∀ j, j < h0.next → g.get j = h0.get j
  wf : g.wf
  d : ∀ j ∈ F, j ∉ G
  lo : ∀ j ∈ F, h0.next ≤ j
  lo' : ∀ j ∈ G, h0.next ≤ j
  le : h0.next ≤ g.next

section
variable {h0 : Hp} {t r : Nat} {F G G' : List Nat} {S S' : TS} {L L' : LT} {E E' : ET} {g g' : Hp}

theorem PJ.ltF (j : PJ h0 t r F G S L E g) : ∀ x ∈ F, x < g.next := fun x hx => (TabR.rep _ _).lt j.wf j.tab hx
theorem PJ.ltG (j : PJ h0 t r F G S L E g) : ∀ x ∈ G, x < g.next := fun x hx => (TRef.RefR.rep _ _ _).lt j.wf j.ref hx
theorem PJ.keeps (j : PJ h0 t r F G S L E g) (hw : h0.wf) : h0.keeps g := fun x c e hq => by rw [j.same x (hw.lt hq)]; exact hq

theorem PJ.tabs (j : PJ h0 t r F G S L E g) (r' : TabR t S' g' F) (u : Upd g g' F F) (w : g'.wf) : PJ h0 t r F G S' L E g' :=
  ⟨r', (TRef.RefR.rep _ _ _).loc _ _ _ (fun x hx => u.same x (j.ltG x hx) (fun hF => j.d x hF hx)) j.ref, fun x hx => by
    have := j.le
    rw [u.same x (by omega) (fun hF => by have := j.lo x hF; omega)]; exact j.same x hx, w, j.d, j.lo, j.lo', by have := u.le; have := j.le; omega⟩

theorem PJ.refs (j : PJ h0 t r F G S L E g) (r' : RefR r L' E' g' G') (u : Upd g g' G G') (w : g'.wf) : PJ h0 t r F G' S L' E' g' :=
  ⟨(TabR.rep _ _).loc _ _ _ (fun x hx => u.same x (j.ltF x hx) (j.d x hx)) j.tab, r', fun x hx => by
    have := j.le
    rw [u.same x (by omega) (fun hF => by have := j.lo' x hF; omega)]; exact j.same x hx, w, fun x hx hx' => by
    rcases u.new x hx' with h1 | h1
    · exact j.d x hx h1
    · have := j.ltF x hx; omega, j.lo, fun x hx => by
    rcases u.new x hx with h1 | h1
    · exact j.lo' x h1
    · have := j.le; omega, by have := u.le; have := j.le; omega⟩

theorem PJ.quiet (j : PJ h0 t r F G S L E g) (q : Quiet g g') : PJ h0 t r F G S L E g' := j.tabs (j.tab.quiet j.wf q) (Quiet.upd q F) q.wf
end

/-- both tables, and the step's own copy -/
structure PC (h0 : Hp) (t r : Nat) (F G : List Nat) (S : TS) (L : LT) (E : ET) (c : Nat) (sh : List V) (g : Hp) : Prop where
  j : PJ h0 t r F G S L E g
  hc : g.get c = some (.row sh 1 false)
  cF : c ∉ F
  cG : c ∉ G

section
variable {h0 : Hp} {t r : Nat} {F G G' : List Nat} {S S' : TS} {L L' : LT} {E E' : ET} {g g' : Hp} {c : Nat} {sh : List V}

theorem PC.cl (j : PC h0 t r F G S L E c sh g) : c < g.next := j.j.wf _ _ j.hc
theorem PC.tabs (j : PC h0 t r F G S L E c sh g) (r' : TabR t S' g' F) (u : Upd g g' F F) (w : g'.wf) : PC h0 t r F G S' L E c sh g' :=
  ⟨j.j.tabs r' u w, by rw [u.same c j.cl j.cF]; exact j.hc, j.cF, j.cG⟩
theorem PC.refs (j : PC h0 t r F G S L E c sh g) (r' : RefR r L' E' g' G') (u : Upd g g' G G') (w : g'.wf) : PC h0 t r F G' S L' E' c sh g' :=
  ⟨j.j.refs r' u w, by rw [u.same c j.cl j.cG]; exact j.hc, j.cF, fun hh => by
    rcases u.new c hh with h1 | h1
    · exact j.cG h1
    · have := j.cl; omega⟩
theorem PC.quiet (j : PC h0 t r F G S L E c sh g) (q : Quiet g g') : PC h0 t r F G S L E c sh g' := j.tabs (j.j.tab.quiet j.j.wf q) (Quiet.upd q F) q.wf
end

set_option maxRecDepth 20000 in
theorem law_calls {h : Hp} {a : Option (Nat × Nat)} {n : Nat} {f : Bool} {rows : List (List V)} (ha : RoSlc h a n rows 11)
    (hr0 : ∀ r ∈ rows, shpBs stepZ r = true ∧ ∀ v ∈ r, v.fits) (hbz : n * Try.prog.bytesOf 36 ≤ reachBytes) :
    XCalls Try.prog 6 [.slc a n f] h fun v _ => v = .bool true := by
  have hr : ∀ r ∈ rows, shpBs stepZ r = true := fun r h => (hr0 r h).1
  have hz : ∀ r ∈ rows, r.length = 11 := fun r h => shpBs_length (hr r h)
  refine XCalls.ofWf fun hw => ?_
  refine XCalls.cps fun K hK => ?_
  have KT : ∀ h', K (.bool true) h' := fun h' => hK _ _ rfl
  apply x6; unfold X6
  cases c0 : ltI 300 (↑n) with
  | true => exact works_spec fun _ => ⟨_, rfl, KT _⟩
  | false =>
  rw [ltI_eq, decide_eq_false_iff_not] at c0
  simp only [cond_false]
  refine (new_spec hw).mono ?_
  rintro _ g1 ⟨rfl, F, r1, q1, hF⟩
  refine ⟨_, rfl, ?_⟩
  rintro g2 rfl
  have qa := Quiet.alloc q1.wf (.row [.slc none 0 true, .slc none 0 true] 1 false)
  have ga : (g1.alloc (.row [.slc none 0 true, .slc none 0 true] 1 false)).get g1.next = some (.row [.slc none 0 true, .slc none 0 true] 1 false) := Hp.get_alloc_self
  generalize g1.alloc (.row [.slc none 0 true, .slc none 0 true] 1 false) = g2 at *
  have hFl := r1.lt q1.wf
  have q1l := q1.le
  have q2l := qa.le
  have j0 : PJ h (h.next + 1) g1.next F [g1.next] newS [] [] g2 :=
    ⟨r1.quiet q1.wf qa, ⟨none, true, [], none, true, [], ⟨ga, Own.nil _ _, Own.nil _ _, by simp, by simp, by simp⟩, rfl⟩, fun j hj => by rw [qa.same _ (by omega), q1.same _ hj], qa.wf, fun j hj hj2 => by rw [List.mem_singleton] at hj2; have := hFl j hj; omega, hF, fun j hj => by rw [List.mem_singleton] at hj; omega, by omega⟩
  generalize h.next + 1 = t at *
  generalize g1.next = r at *
  clear qa ga r1 q1 hFl q1l q2l
  refine ⟨fun vs g => match vs with
    | [.int _ i] => ∃ (k : Nat) (S : TS) (L : LT) (E : ET) (G : List Nat), i = k ∧ k ≤ n ∧ PJ h t r F G S L E g ∧ Pl S L E k
    | _ => False, fun vs _ => match vs with
    | [.int _ i] => n - i.toNat
    | _ => 0, ⟨(by first | exact True.intro | rfl), 0, newS, [], [], [r], rfl, by omega, j0, TRef.Pl.start⟩, ?_⟩
  clear j0
  rintro bs i g ⟨k, S, L, E, G, rfl, hkn, j, s⟩
  cases hi : ltI (↑k) (↑n) with
  | false => exact works_spec fun _ => ⟨true, rfl, KT _⟩
  | true =>
  rw [ltI_eq, decide_eq_true_eq] at hi
  have hkn' : k < n := by omega
  have hk300 : k ≤ 300 := by omega
  obtain ⟨qa, row, rfl, hrow, hld, hlda⟩ := ha.ld (j.keeps hw) hkn' hz
  obtain ⟨d, pa, pb, pc, pd, ai, ap, w, ow, hs, now, rfl⟩ := step_form (hr row (List.mem_of_getElem? hrow))
  have hfit := (hr0 _ (List.mem_of_getElem? hrow)).2
  have hw1 : IntKind.i64.wrap ((k : Int) + 1) = ((k + 1 : Nat) : Int) := by rw [wr (by omega) (by omega)]; rfl
  have hhs : 0 ≤ hs ∧ hs < 4294967296 := by
    have := hfit (.int .u32 hs) (by simp)
    simp [V.fits, IntKind.min, IntKind.max, IntKind.signed, IntKind.bits] at this
    omega
  have hwho : 0 ≤ w := by
    have := hfit (.int .u64 w) (by simp)
    simp [V.fits, IntKind.min, IntKind.max, IntKind.signed, IntKind.bits] at this
    omega
  clear hfit hld
  refine ⟨⟨by omega, hi⟩, d, pa, pb, pc, pd, ai, ap, w, ow, hs, now, hlda, ?_⟩
  rintro g5 rfl
  refine ⟨_, Hp.st_of Hp.get_alloc_self (Nat.le_of_ble_eq_true rfl), ?_⟩
  obtain ⟨g6, hg6⟩ : ∃ g6, g6 = (g.alloc (.row [.int .i64 0, .int .u32 0, .int .u16 0, .int .u32 0, .int .u16 0, .int .u32 0, .int .u16 0, .int .u64 0, .int .u64 0, .int .u32 0, .int .i64 0] 1 false)).set g.next (.row (splice [.int .i64 0, .int .u32 0, .int .u16 0, .int .u32 0, .int .u16 0, .int .u32 0, .int .u16 0, .int .u64 0, .int .u64 0, .int .u32 0, .int .i64 0] 0 [.int .i64 d, .int .u32 pa, .int .u16 pb, .int .u32 pc, .int .u16 pd, .int .u32 ai, .int .u16 ap, .int .u64 w, .int .u64 ow, .int .u32 hs, .int .i64 now]) 1 false) := ⟨_, rfl⟩
  rw [← hg6]
  obtain ⟨sh, hsh⟩ : ∃ sh, sh = [V.int .i64 d, .int .u32 pa, .int .u16 pb, .int .u32 pc, .int .u16 pd, .int .u32 ai, .int .u16 ap, .int .u64 w, .int .u64 ow, .int .u32 hs, .int .i64 now] := ⟨_, rfl⟩
  have c6 : g6.get g.next = some (.row sh 1 false) := by rw [hg6, Hp.get_set_self, hsh]; rfl
  have q6 : Quiet g g6 := by rw [hg6]; exact ⟨fun j hj => by simp (disch := (first | omega | (simp only [Hp.alloc_next, Hp.set_next] <;> omega) | (simp (disch := (first | omega | (simp only [Hp.alloc_next, Hp.set_next] <;> omega) | fail)) only [Hp.get_set_self, Hp.get_set_ne, Hp.get_alloc_self, Hp.get_alloc_ne, Hp.get_alloc_at, Hp.get_set_at, Hp.set_next, Hp.alloc_next]; done) | fail)) only [Hp.st, Hp.ld, Hp.lda, splice, ble_eq', if_true, if_false, ite_true, ite_false, cond_true, cond_false, decide_true, decide_false, List.length_cons, List.length_nil, List.take_zero, List.take_succ_cons, List.nil_append, List.cons_append, List.append_nil, List.drop_succ_cons, List.drop_zero, List.drop_nil, List.getElem?_cons_succ, List.getElem?_cons_zero, Nat.reduceAdd, Nat.reduceLeDiff, Nat.reduceEqDiff, Nat.zero_add, Nat.add_zero, Nat.le_refl, Nat.zero_le, Nat.succ_ne_self, Nat.mul_one, Int.toNat_natCast, Option.some.injEq, Option.isNone_some, Option.isNone_none, V.int.injEq, V.str.injEq, V.bool.injEq, V.ptr.injEq, V.slc.injEq, V.map.injEq, V.agg.injEq, V.tup.injEq, List.cons.injEq, Prod.mk.injEq, onS, true_and, and_true, and_assoc, exists_and_left, exists_eq_left', forall_eq, heq_eq_eq, reduceCtorEq, Bool.not_true, Bool.not_false, eq_self, not_false_eq_true, Nat.left_eq_add, Nat.add_eq_left, Nat.add_left_cancel_iff, Nat.add_right_cancel_iff, Nat.reduceEqDiff, Nat.one_ne_zero, Hp.get_set_self, Hp.get_set_ne, Hp.get_alloc_self, Hp.get_alloc_ne, Hp.get_alloc_at, Hp.get_set_at, Hp.set_next, Hp.alloc_next, Option.some_ne_none, V.tup.injEq, Option.isSome_some, Option.isSome_none, exists_eq_left, exists_eq, Nat.mul_zero], by simp (disch := (first | omega | (simp only [Hp.alloc_next, Hp.set_next] <;> omega) | (simp (disch := (first | omega | (simp only [Hp.alloc_next, Hp.set_next] <;> omega) | fail)) only [Hp.get_set_self, Hp.get_set_ne, Hp.get_alloc_self, Hp.get_alloc_ne, Hp.get_alloc_at, Hp.get_set_at, Hp.set_next, Hp.alloc_next]; done) | fail)) only [Hp.st, Hp.ld, Hp.lda, splice, ble_eq', if_true, if_false, ite_true, ite_false, cond_true, cond_false, decide_true, decide_false, List.length_cons, List.length_nil, List.take_zero, List.take_succ_cons, List.nil_append, List.cons_append, List.append_nil, List.drop_succ_cons, List.drop_zero, List.drop_nil, List.getElem?_cons_succ, List.getElem?_cons_zero, Nat.reduceAdd, Nat.reduceLeDiff, Nat.reduceEqDiff, Nat.zero_add, Nat.add_zero, Nat.le_refl, Nat.zero_le, Nat.succ_ne_self, Nat.mul_one, Int.toNat_natCast, Option.some.injEq, Option.isNone_some, Option.isNone_none, V.int.injEq, V.str.injEq, V.bool.injEq, V.ptr.injEq, V.slc.injEq, V.map.injEq, V.agg.injEq, V.tup.injEq, List.cons.injEq, Prod.mk.injEq, onS, true_and, and_true, and_assoc, exists_and_left, exists_eq_left', forall_eq, heq_eq_eq, reduceCtorEq, Bool.not_true, Bool.not_false, eq_self, not_false_eq_true, Nat.left_eq_add, Nat.add_eq_left, Nat.add_left_cancel_iff, Nat.add_right_cancel_iff, Nat.reduceEqDiff, Nat.one_ne_zero, Hp.get_set_self, Hp.get_set_ne, Hp.get_alloc_self, Hp.get_alloc_ne, Hp.get_alloc_at, Hp.get_set_at, Hp.set_next, Hp.alloc_next, Option.some_ne_none, V.tup.injEq, Option.isSome_some, Option.isSome_none, exists_eq_left, exists_eq, Nat.mul_zero]; omega, j.wf.alloc.set (Nat.lt_succ_self _)⟩
  clear hg6
  have P6 : PC h t r F G S L E g.next sh g6 := ⟨j.quiet q6, c6, fun hh => by have := j.ltF _ hh; omega, fun hh => by have := j.ltG _ hh; omega⟩
  generalize g.next = c at *
  have rd : ∀ {g' : Hp}, g'.get c = some (.row sh 1 false) → g'.lda c 1 4 = some (Pr.v ⟨pa, pb, pc, pd⟩) ∧ g'.lda c 5 2 = some (adV ⟨ai, ap⟩) ∧ g'.ld c 0 = some (.int .i64 d) ∧ g'.ld c 7 = some (.int .u64 w) ∧ g'.ld c 9 = some (.int .u32 hs) ∧ g'.ld c 10 = some (.int .i64 now) ∧ g'.ld c 8 = some (.int .u64 ow) := fun {g'} hc => by
    subst hsh
    exact ⟨by simp (disch := (first | omega | (simp only [Hp.alloc_next, Hp.set_next] <;> omega) | (simp (disch := (first | omega | (simp only [Hp.alloc_next, Hp.set_next] <;> omega) | fail)) only [Hp.get_set_self, Hp.get_set_ne, Hp.get_alloc_self, Hp.get_alloc_ne, Hp.get_alloc_at, Hp.get_set_at, Hp.set_next, Hp.alloc_next, hc]; done) | fail)) only [Hp.st, Hp.ld, Hp.lda, splice, ble_eq', if_true, if_false, ite_true, ite_false, cond_true, cond_false, decide_true, decide_false, List.length_cons, List.length_nil, List.take_zero, List.take_succ_cons, List.nil_append, List.cons_append, List.append_nil, List.drop_succ_cons, List.drop_zero, List.drop_nil, List.getElem?_cons_succ, List.getElem?_cons_zero, Nat.reduceAdd, Nat.reduceLeDiff, Nat.reduceEqDiff, Nat.zero_add, Nat.add_zero, Nat.le_refl, Nat.zero_le, Nat.succ_ne_self, Nat.mul_one, Int.toNat_natCast, Option.some.injEq, Option.isNone_some, Option.isNone_none, V.int.injEq, V.str.injEq, V.bool.injEq, V.ptr.injEq, V.slc.injEq, V.map.injEq, V.agg.injEq, V.tup.injEq, List.cons.injEq, Prod.mk.injEq, onS, true_and, and_true, and_assoc, exists_and_left, exists_eq_left', forall_eq, heq_eq_eq, reduceCtorEq, Bool.not_true, Bool.not_false, eq_self, not_false_eq_true, Nat.left_eq_add, Nat.add_eq_left, Nat.add_left_cancel_iff, Nat.add_right_cancel_iff, Nat.reduceEqDiff, Nat.one_ne_zero, Hp.get_set_self, Hp.get_set_ne, Hp.get_alloc_self, Hp.get_alloc_ne, Hp.get_alloc_at, Hp.get_set_at, Hp.set_next, Hp.alloc_next, Option.some_ne_none, V.tup.injEq, Option.isSome_some, Option.isSome_none, exists_eq_left, exists_eq, Nat.mul_zero, hc]; rfl, by simp (disch := (first | omega | (simp only [Hp.alloc_next, Hp.set_next] <;> omega) | (simp (disch := (first | omega | (simp only [Hp.alloc_next, Hp.set_next] <;> omega) | fail)) only [Hp.get_set_self, Hp.get_set_ne, Hp.get_alloc_self, Hp.get_alloc_ne, Hp.get_alloc_at, Hp.get_set_at, Hp.set_next, Hp.alloc_next, hc]; done) | fail)) only [Hp.st, Hp.ld, Hp.lda, splice, ble_eq', if_true, if_false, ite_true, ite_false, cond_true, cond_false, decide_true, decide_false, List.length_cons, List.length_nil, List.take_zero, List.take_succ_cons, List.nil_append, List.cons_append, List.append_nil, List.drop_succ_cons, List.drop_zero, List.drop_nil, List.getElem?_cons_succ, List.getElem?_cons_zero, Nat.reduceAdd, Nat.reduceLeDiff, Nat.reduceEqDiff, Nat.zero_add, Nat.add_zero, Nat.le_refl, Nat.zero_le, Nat.succ_ne_self, Nat.mul_one, Int.toNat_natCast, Option.some.injEq, Option.isNone_some, Option.isNone_none, V.int.injEq, V.str.injEq, V.bool.injEq, V.ptr.injEq, V.slc.injEq, V.map.injEq, V.agg.injEq, V.tup.injEq, List.cons.injEq, Prod.mk.injEq, onS, true_and, and_true, and_assoc, exists_and_left, exists_eq_left', forall_eq, heq_eq_eq, reduceCtorEq, Bool.not_true, Bool.not_false, eq_self, not_false_eq_true, Nat.left_eq_add, Nat.add_eq_left, Nat.add_left_cancel_iff, Nat.add_right_cancel_iff, Nat.reduceEqDiff, Nat.one_ne_zero, Hp.get_set_self, Hp.get_set_ne, Hp.get_alloc_self, Hp.get_alloc_ne, Hp.get_alloc_at, Hp.get_set_at, Hp.set_next, Hp.alloc_next, Option.some_ne_none, V.tup.injEq, Option.isSome_some, Option.isSome_none, exists_eq_left, exists_eq, Nat.mul_zero, hc]; rfl, by simp (disch := (first | omega | (simp only [Hp.alloc_next, Hp.set_next] <;> omega) | (simp (disch := (first | omega | (simp only [Hp.alloc_next, Hp.set_next] <;> omega) | fail)) only [Hp.get_set_self, Hp.get_set_ne, Hp.get_alloc_self, Hp.get_alloc_ne, Hp.get_alloc_at, Hp.get_set_at, Hp.set_next, Hp.alloc_next, hc]; done) | fail)) only [Hp.st, Hp.ld, Hp.lda, splice, ble_eq', if_true, if_false, ite_true, ite_false, cond_true, cond_false, decide_true, decide_false, List.length_cons, List.length_nil, List.take_zero, List.take_succ_cons, List.nil_append, List.cons_append, List.append_nil, List.drop_succ_cons, List.drop_zero, List.drop_nil, List.getElem?_cons_succ, List.getElem?_cons_zero, Nat.reduceAdd, Nat.reduceLeDiff, Nat.reduceEqDiff, Nat.zero_add, Nat.add_zero, Nat.le_refl, Nat.zero_le, Nat.succ_ne_self, Nat.mul_one, Int.toNat_natCast, Option.some.injEq, Option.isNone_some, Option.isNone_none, V.int.injEq, V.str.injEq, V.bool.injEq, V.ptr.injEq, V.slc.injEq, V.map.injEq, V.agg.injEq, V.tup.injEq, List.cons.injEq, Prod.mk.injEq, onS, true_and, and_true, and_assoc, exists_and_left, exists_eq_left', forall_eq, heq_eq_eq, reduceCtorEq, Bool.not_true, Bool.not_false, eq_self, not_false_eq_true, Nat.left_eq_add, Nat.add_eq_left, Nat.add_left_cancel_iff, Nat.add_right_cancel_iff, Nat.reduceEqDiff, Nat.one_ne_zero, Hp.get_set_self, Hp.get_set_ne, Hp.get_alloc_self, Hp.get_alloc_ne, Hp.get_alloc_at, Hp.get_set_at, Hp.set_next, Hp.alloc_next, Option.some_ne_none, V.tup.injEq, Option.isSome_some, Option.isSome_none, exists_eq_left, exists_eq, Nat.mul_zero, hc], by simp (disch := (first | omega | (simp only [Hp.alloc_next, Hp.set_next] <;> omega) | (simp (disch := (first | omega | (simp only [Hp.alloc_next, Hp.set_next] <;> omega) | fail)) only [Hp.get_set_self, Hp.get_set_ne, Hp.get_alloc_self, Hp.get_alloc_ne, Hp.get_alloc_at, Hp.get_set_at, Hp.set_next, Hp.alloc_next, hc]; done) | fail)) only [Hp.st, Hp.ld, Hp.lda, splice, ble_eq', if_true, if_false, ite_true, ite_false, cond_true, cond_false, decide_true, decide_false, List.length_cons, List.length_nil, List.take_zero, List.take_succ_cons, List.nil_append, List.cons_append, List.append_nil, List.drop_succ_cons, List.drop_zero, List.drop_nil, List.getElem?_cons_succ, List.getElem?_cons_zero, Nat.reduceAdd, Nat.reduceLeDiff, Nat.reduceEqDiff, Nat.zero_add, Nat.add_zero, Nat.le_refl, Nat.zero_le, Nat.succ_ne_self, Nat.mul_one, Int.toNat_natCast, Option.some.injEq, Option.isNone_some, Option.isNone_none, V.int.injEq, V.str.injEq, V.bool.injEq, V.ptr.injEq, V.slc.injEq, V.map.injEq, V.agg.injEq, V.tup.injEq, List.cons.injEq, Prod.mk.injEq, onS, true_and, and_true, and_assoc, exists_and_left, exists_eq_left', forall_eq, heq_eq_eq, reduceCtorEq, Bool.not_true, Bool.not_false, eq_self, not_false_eq_true, Nat.left_eq_add, Nat.add_eq_left, Nat.add_left_cancel_iff, Nat.add_right_cancel_iff, Nat.reduceEqDiff, Nat.one_ne_zero, Hp.get_set_self, Hp.get_set_ne, Hp.get_alloc_self, Hp.get_alloc_ne, Hp.get_alloc_at, Hp.get_set_at, Hp.set_next, Hp.alloc_next, Option.some_ne_none, V.tup.injEq, Option.isSome_some, Option.isSome_none, exists_eq_left, exists_eq, Nat.mul_zero, hc], by simp (disch := (first | omega | (simp only [Hp.alloc_next, Hp.set_next] <;> omega) | (simp (disch := (first | omega | (simp only [Hp.alloc_next, Hp.set_next] <;> omega) | fail)) only [Hp.get_set_self, Hp.get_set_ne, Hp.get_alloc_self, Hp.get_alloc_ne, Hp.get_alloc_at, Hp.get_set_at, Hp.set_next, Hp.alloc_next, hc]; done) | fail)) only [Hp.st, Hp.ld, Hp.lda, splice, ble_eq', if_true, if_false, ite_true, ite_false, cond_true, cond_false, decide_true, decide_false, List.length_cons, List.length_nil, List.take_zero, List.take_succ_cons, List.nil_append, List.cons_append, List.append_nil, List.drop_succ_cons, List.drop_zero, List.drop_nil, List.getElem?_cons_succ, List.getElem?_cons_zero, Nat.reduceAdd, Nat.reduceLeDiff, Nat.reduceEqDiff, Nat.zero_add, Nat.add_zero, Nat.le_refl, Nat.zero_le, Nat.succ_ne_self, Nat.mul_one, Int.toNat_natCast, Option.some.injEq, Option.isNone_some, Option.isNone_none, V.int.injEq, V.str.injEq, V.bool.injEq, V.ptr.injEq, V.slc.injEq, V.map.injEq, V.agg.injEq, V.tup.injEq, List.cons.injEq, Prod.mk.injEq, onS, true_and, and_true, and_assoc, exists_and_left, exists_eq_left', forall_eq, heq_eq_eq, reduceCtorEq, Bool.not_true, Bool.not_false, eq_self, not_false_eq_true, Nat.left_eq_add, Nat.add_eq_left, Nat.add_left_cancel_iff, Nat.add_right_cancel_iff, Nat.reduceEqDiff, Nat.one_ne_zero, Hp.get_set_self, Hp.get_set_ne, Hp.get_alloc_self, Hp.get_alloc_ne, Hp.get_alloc_at, Hp.get_set_at, Hp.set_next, Hp.alloc_next, Option.some_ne_none, V.tup.injEq, Option.isSome_some, Option.isSome_none, exists_eq_left, exists_eq, Nat.mul_zero, hc], by simp (disch := (first | omega | (simp only [Hp.alloc_next, Hp.set_next] <;> omega) | (simp (disch := (first | omega | (simp only [Hp.alloc_next, Hp.set_next] <;> omega) | fail)) only [Hp.get_set_self, Hp.get_set_ne, Hp.get_alloc_self, Hp.get_alloc_ne, Hp.get_alloc_at, Hp.get_set_at, Hp.set_next, Hp.alloc_next, hc]; done) | fail)) only [Hp.st, Hp.ld, Hp.lda, splice, ble_eq', if_true, if_false, ite_true, ite_false, cond_true, cond_false, decide_true, decide_false, List.length_cons, List.length_nil, List.take_zero, List.take_succ_cons, List.nil_append, List.cons_append, List.append_nil, List.drop_succ_cons, List.drop_zero, List.drop_nil, List.getElem?_cons_succ, List.getElem?_cons_zero, Nat.reduceAdd, Nat.reduceLeDiff, Nat.reduceEqDiff, Nat.zero_add, Nat.add_zero, Nat.le_refl, Nat.zero_le, Nat.succ_ne_self, Nat.mul_one, Int.toNat_natCast, Option.some.injEq, Option.isNone_some, Option.isNone_none, V.int.injEq, V.str.injEq, V.bool.injEq, V.ptr.injEq, V.slc.injEq, V.map.injEq, V.agg.injEq, V.tup.injEq, List.cons.injEq, Prod.mk.injEq, onS, true_and, and_true, and_assoc, exists_and_left, exists_eq_left', forall_eq, heq_eq_eq, reduceCtorEq, Bool.not_true, Bool.not_false, eq_self, not_false_eq_true, Nat.left_eq_add, Nat.add_eq_left, Nat.add_left_cancel_iff, Nat.add_right_cancel_iff, Nat.reduceEqDiff, Nat.one_ne_zero, Hp.get_set_self, Hp.get_set_ne, Hp.get_alloc_self, Hp.get_alloc_ne, Hp.get_alloc_at, Hp.get_set_at, Hp.set_next, Hp.alloc_next, Option.some_ne_none, V.tup.injEq, Option.isSome_some, Option.isSome_none, exists_eq_left, exists_eq, Nat.mul_zero, hc], by simp (disch := (first | omega | (simp only [Hp.alloc_next, Hp.set_next] <;> omega) | (simp (disch := (first | omega | (simp only [Hp.alloc_next, Hp.set_next] <;> omega) | fail)) only [Hp.get_set_self, Hp.get_set_ne, Hp.get_alloc_self, Hp.get_alloc_ne, Hp.get_alloc_at, Hp.get_set_at, Hp.set_next, Hp.alloc_next, hc]; done) | fail)) only [Hp.st, Hp.ld, Hp.lda, splice, ble_eq', if_true, if_false, ite_true, ite_false, cond_true, cond_false, decide_true, decide_false, List.length_cons, List.length_nil, List.take_zero, List.take_succ_cons, List.nil_append, List.cons_append, List.append_nil, List.drop_succ_cons, List.drop_zero, List.drop_nil, List.getElem?_cons_succ, List.getElem?_cons_zero, Nat.reduceAdd, Nat.reduceLeDiff, Nat.reduceEqDiff, Nat.zero_add, Nat.add_zero, Nat.le_refl, Nat.zero_le, Nat.succ_ne_self, Nat.mul_one, Int.toNat_natCast, Option.some.injEq, Option.isNone_some, Option.isNone_none, V.int.injEq, V.str.injEq, V.bool.injEq, V.ptr.injEq, V.slc.injEq, V.map.injEq, V.agg.injEq, V.tup.injEq, List.cons.injEq, Prod.mk.injEq, onS, true_and, and_true, and_assoc, exists_and_left, exists_eq_left', forall_eq, heq_eq_eq, reduceCtorEq, Bool.not_true, Bool.not_false, eq_self, not_false_eq_true, Nat.left_eq_add, Nat.add_eq_left, Nat.add_left_cancel_iff, Nat.add_right_cancel_iff, Nat.reduceEqDiff, Nat.one_ne_zero, Hp.get_set_self, Hp.get_set_ne, Hp.get_alloc_self, Hp.get_alloc_ne, Hp.get_alloc_at, Hp.get_set_at, Hp.set_next, Hp.alloc_next, Option.some_ne_none, V.tup.injEq, Option.isSome_some, Option.isSome_none, exists_eq_left, exists_eq, Nat.mul_zero, hc]⟩
  obtain ⟨p, hp⟩ : ∃ p : Pr, p = ⟨pa, pb, pc, pd⟩ := ⟨_, rfl⟩
  rw [← hp] at rd
  have hpv : Pr.v p = .agg [.int .u32 pa, .int .u16 pb, .int .u32 pc, .int .u16 pd] := by rw [hp]; rfl
  have hll := s.ll
  have hel := s.el
  refine ⟨fun vs g' => match vs with
    | [.bool b] => b = true ∧ ∃ (S' : TS) (L' : LT) (E' : ET) (G' : List Nat), PC h t r F G' S' L' E' c sh g' ∧ Pl S' L' E' (k + 1)
    | _ => False, ?_, ?_⟩
  · obtain ⟨e1, e2, e3, e4, e5, e6, e7⟩ := rd P6.hc
    rw [hpv] at e1
    refine ⟨d, e3, ?_⟩
    cases hd0 : d == 0 with
    | true =>
      refine ⟨pa, pb, pc, pd, e1, w, e4, pa, pb, pc, pd, e1, w, e4, ?_⟩
      rw [← hpv]
      refine (put_spec P6.j.wf P6.j.tab p w).mono ?_
      rintro _ g7 ⟨rfl, r7, u7, w7⟩
      have P7 := P6.tabs r7 u7 w7
      obtain ⟨f1, f2, f3, f4, f5, f6, f7⟩ := rd P7.hc
      rw [hpv] at f1
      refine ⟨_, rfl, ⟨w, f4, rfl⟩, (by first | exact True.intro | rfl), ⟨pa, pb, pc, pd, f1, hpv.symm⟩, (by first | exact True.intro | rfl), (by first | exact True.intro | rfl), ?_⟩
      refine (TRef.put_spec P7.j.wf P7.j.ref (by omega) p w).mono ?_
      rintro _ g8 ⟨rfl, G', r8, u8, w8⟩
      obtain ⟨hv, hpl⟩ := s.put hk300 p hwho
      exact ⟨_, rfl, (by first | exact True.intro | rfl), by rw [hv]; simp, _, _, _, _, P7.refs r8 u8 w8, hpl⟩
    | false =>
    cases hd1 : d == 1 with
    | true =>
      refine ⟨pa, pb, pc, pd, e1, now, e6, pa, pb, pc, pd, e1, now, e6, ?_⟩
      rw [← hpv]
      refine (rest_spec P6.j.wf P6.j.tab p now).mono ?_
      rintro _ g7 ⟨rfl, r7, u7, w7⟩
      have P7 := P6.tabs r7 u7 w7
      obtain ⟨f1, f2, f3, f4, f5, f6, f7⟩ := rd P7.hc
      rw [hpv] at f1
      refine ⟨_, rfl, ⟨now, f6, rfl⟩, (by first | exact True.intro | rfl), ⟨pa, pb, pc, pd, f1, hpv.symm⟩, (by first | exact True.intro | rfl), (by first | exact True.intro | rfl), ?_⟩
      refine (TRef.rest_spec P7.j.wf P7.j.ref (by omega) p now).mono ?_
      rintro _ g8 ⟨rfl, G', r8, u8, w8⟩
      obtain ⟨hv, hpl⟩ := s.rest hk300 p now
      exact ⟨_, rfl, (by first | exact True.intro | rfl), by rw [hv]; simp, _, _, _, _, P7.refs r8 u8 w8, hpl⟩
    | false =>
    cases hd2 : d == 2 with
    | true =>
      refine ⟨w, e4, ai, ap, e2, w, e4, ai, ap, e2, ?_⟩
      refine (listen_spec P6.j.wf P6.j.tab w ⟨ai, ap⟩).mono ?_
      rintro _ g7 ⟨rfl, r7, u7, w7⟩
      have P7 := P6.tabs r7 u7 w7
      obtain ⟨f1, f2, f3, f4, f5, f6, f7⟩ := rd P7.hc
      refine ⟨_, rfl, ⟨ai, ap, f2, rfl⟩, (by first | exact True.intro | rfl), ⟨w, f4, rfl⟩, (by first | exact True.intro | rfl), (by first | exact True.intro | rfl), ?_⟩
      refine (TRef.listen_spec P7.j.wf P7.j.ref (by omega) w ⟨ai, ap⟩).mono ?_
      rintro _ g8 ⟨cc, E', G', rfl, hL, r8, u8, w8⟩
      obtain ⟨hv, hpl⟩ := s.listen w ⟨ai, ap⟩ hL
      exact ⟨_, rfl, (by first | exact True.intro | rfl), by rw [hv]; simp, _, _, _, _, P7.refs r8 u8 w8, hpl⟩
    | false =>
    cases hd3 : d == 3 with
    | true =>
      refine ⟨w, e4, ow, e7, ?_⟩
      rintro g7 rfl
      have q7 := Quiet.alloc P6.j.wf (.row [.int .u64 w, .int .u64 ow] 1 false)
      have c7 : (g6.alloc (.row [.int .u64 w, .int .u64 ow] 1 false)).get g6.next = some (.row [.int .u64 w, .int .u64 ow] 1 false) := Hp.get_alloc_self
      have P7 := P6.quiet q7
      generalize g6.alloc (.row [.int .u64 w, .int .u64 ow] 1 false) = g7 at *
      have own : Own 1 (some (g6.next, 0)) [w, ow].length ([w, ow].map fun s => [V.int .u64 s]) g7 [g6.next] := ⟨rfl, by simp, rfl, [], rfl, c7⟩
      refine (deaf_spec (f := true) P7.j.wf P7.j.tab own (fun x hx hF => by rw [List.mem_singleton] at hx; have := P6.j.ltF x hF; omega) (by simp)).mono ?_
      rintro _ g8 ⟨rfl, r8, u8, w8⟩
      have P8 := P7.tabs r8 u8 w8
      obtain ⟨f1, f2, f3, f4, f5, f6, f7⟩ := rd P8.hc
      refine ⟨_, rfl, w, f4, ?_⟩
      refine (TRef.deaf_spec P8.j.wf P8.j.ref (by omega) w).mono ?_
      rintro _ g9 ⟨rfl, G9, r9, u9, w9⟩
      have P9 := P8.refs r9 u9 w9
      obtain ⟨k1, k2, k3, k4, k5, k6, k7⟩ := rd P9.hc
      refine ⟨_, rfl, ow, k7, ?_⟩
      obtain ⟨hv1, hp1⟩ := s.deaf1 w 0
      have hel1 := hp1.el
      refine (TRef.deaf_spec P9.j.wf P9.j.ref (by omega) ow).mono ?_
      rintro _ g10 ⟨rfl, G10, r10, u10, w10⟩
      have P10 := P9.refs r10 u10 w10
      obtain ⟨hv2, hp2⟩ := hp1.deaf1 ow (Tbl.deaf1 (0, S) w).1
      refine ⟨_, rfl, (by first | exact True.intro | rfl), ?_, _, _, _, _, P10, hp2.weak⟩
      have b1 : ∀ (E : ET) (s : Int), (TRef.deafR E s).1 = 0 ∨ (TRef.deafR E s).1 = 1 := fun E s => by unfold TRef.deafR; split <;> simp
      have hb1 := b1 E w
      have hb2 := b1 (TRef.deafR E w).2 ow
      have e1 : (deafF S [w, ow]).1 = (Tbl.deaf1 (Tbl.deaf1 (0, S) w) ow).1 := rfl
      have e2 : Tbl.deaf1 (Tbl.deaf1 (0, S) w) ow = Tbl.deaf1 ((Tbl.deaf1 (0, S) w).1, (Tbl.deaf1 (0, S) w).2) ow := rfl
      rw [e1, e2, wr (by omega) (by omega), hv2, hv1]
      simp
    | false =>
    cases hd4 : d == 4 with
    | true =>
      refine ⟨now, e6, now, e6, ?_⟩
      have hrs := s.rests
      have hcl := TRef.cnt_le L
      refine (old_spec P6.j.wf P6.j.tab now s.nd (fun k hk => by have := s.len k hk; omega) (by omega)).mono ?_
      rintro _ g7 ⟨S', rfl, ho, r7, u7, w7⟩
      have P7 := P6.tabs r7 u7 w7
      obtain ⟨f1, f2, f3, f4, f5, f6, f7⟩ := rd P7.hc
      refine ⟨_, rfl, ⟨now, f6, rfl⟩, (by first | exact True.intro | rfl), (by first | exact True.intro | rfl), ?_⟩
      refine (TRef.old_spec P7.j.wf P7.j.ref (by omega) now).mono ?_
      rintro _ g8 ⟨rfl, G', r8, u8, w8⟩
      obtain ⟨hv, hpl⟩ := s.old ho
      exact ⟨_, rfl, (by first | exact True.intro | rfl), by rw [hv]; simp, _, _, _, _, P7.refs r8 u8 w8, hpl⟩
    | false => exact ⟨(by first | exact True.intro | rfl), rfl, _, _, _, _, P6, s.weak⟩
  clear P6 c6 q6 j s hlda hrow hll hel
  rintro bs5 b2 g7 ⟨rfl, S', L', E', G', P7, s7⟩
  have hll := s7.ll
  have hel := s7.el
  obtain ⟨e1, e2, e3, e4, e5, e6, e7⟩ := rd P7.hc
  rw [hpv] at e1
  refine ⟨pa, pb, pc, pd, e1, hs, e5, now, e6, ?_⟩
  rw [← hpv]
  refine (find_spec P7.j.wf P7.j.tab ⟨s7.end', by have := s7.sl; omega⟩ p hhs).mono ?_
  rintro _ g8 ⟨q8, k1, w1, rfl, hf1⟩
  have P8 := P7.quiet q8
  obtain ⟨f1, f2, f3, f4, f5, f6, f7⟩ := rd P8.hc
  rw [hpv] at f1
  refine ⟨k1, w1, rfl, pa, pb, pc, pd, f1, hs, f5, now, f6, ?_⟩
  rw [← hpv]
  refine (TRef.find_spec P8.j.wf P8.j.ref (by omega) (by omega) p hhs).mono ?_
  rintro _ g9 ⟨q9, k2, w2, rfl, hf2⟩
  have P9 := P8.quiet q9
  obtain ⟨hk12, hw12⟩ := s7.find hf1 hf2
  refine ⟨k2, w2, rfl, ?_⟩
  have href := P9.j.ref
  obtain ⟨a1, b1, G1, a2, b2, G2, ra, eG⟩ := href
  refine (TRef.count_spec P9.j.wf ra (by omega)).mono ?_
  rintro _ _ ⟨rfl, rfl⟩
  rename_i g9
  refine ⟨_, _, rfl, ?_⟩
  rw [hk12, hw12, bne_self_eq_false, bne_self_eq_false]
  simp only [Bool.not_true, cond_false]
  refine (conns_spec P9.j.tab).mono ?_
  rintro _ _ ⟨rfl, rfl⟩
  rename_i g9
  refine ⟨_, rfl, (by first | exact True.intro | rfl), ?_⟩
  rw [s7.conns, bne_self_eq_false]
  refine (rests_spec P9.j.tab).mono ?_
  rintro _ _ ⟨rfl, rfl⟩
  rename_i g9
  refine ⟨_, rfl, (by first | exact True.intro | rfl), ?_⟩
  rw [s7.rests, bne_self_eq_false]
  obtain ⟨f1, f2, f3, f4, f5, f6, f7⟩ := rd P9.hc
  rw [hpv] at f1
  refine ⟨pa, pb, pc, pd, f1, pa, pb, pc, pd, f1, ?_⟩
  rw [← hpv]
  refine (shard_spec p).mono ?_
  rintro _ _ ⟨rfl, rfl⟩
  rename_i g9
  refine ⟨_, rfl, ⟨pa, pb, pc, pd, f1, hpv.symm⟩, (by first | exact True.intro | rfl), ?_⟩
  refine (TRef.shard26 P9.j.wf p).mono ?_
  rintro _ g10 ⟨rfl, q10⟩
  have P10 := P9.quiet q10
  refine ⟨_, rfl, ?_⟩
  rw [bne_self_eq_false, hw1]
  exact ⟨(by first | exact True.intro | rfl), ⟨k + 1, S', L', E', G', rfl, by omega, P10.j, s7⟩, by show n - ((k + 1 : Nat) : Int).toNat < n - (k : Int).toNat; omega⟩
end Go.Vex.TablePlays

namespace Go.Proofs.Yteknlobdnjcdbaa.tablePlays
open Go.ChangeShapes Go.WideShapes Go.ChangeAt Go.RowKit Go.Vex Go.Vex.TablePlays
open Go.ChangeMaps (open_string shut_string)

theorem own : ownKnob Try.prog.godebug = none := by kernel_rfl

set_option maxRecDepth 100000 in
theorem lifted (os : Os) (started : os.Started) (H : Type) (enc : TypeId × Value → H) :
    ReturnsInHanded {} Try.checked os 6 .any (Rows.tablePlaysSpec.pre6 enc Try.prog Try.f6 Rows.tablePlaysRow.domain false) (Rows.tablePlaysSpec.post enc Try.prog Try.f6 false true false false) := by
  refine returnsInHanded_of_change_sized (C := Try.checked) own started (by kernel_rfl) Try.func6
    (ChangeSpec.witness6 (enc := enc) (C := Try.checked) false ⟨#[], #[.slice none 0 0], []⟩ 8 (by kernel_rfl) (by kernel_rfl) (by kernel_rfl) (by kernel_rfl)) ?_
  intro W base args ds gs before hval0 hW hcnd hsz _
  have hval : ∀ (j : Nat) t v, Try.f6.params[j]? = some t → args[j]? = some v → Value.okWide Try.prog W .any base t v := hval0
  have hW' := hW
  obtain ⟨p, q, hA0, hV, rfl, hfz, hnd⟩ := hW
  have hA : DataW.TrodAll enc Try.prog W 0 (fun _ => true) true Try.f6.params.toList args.toList ds p := hA0
  rw [Try.params6] at hA hval hsz
  obtain ⟨v0, vs0, d0, ds0, p0, q0, hargs, rfl, rfl, h0, r0⟩ := trodAll_cons hA
  obtain ⟨rfl, rfl, rfl⟩ := trodAll_nil r0
  obtain rfl : args = #[v0] := by cases args; simp_all
  obtain ⟨rfl, rfl⟩ := trodVars_none hV
  obtain ⟨ρ0, hp0, b0, n0, f0, rows0, s0, x0, l0, k0, vr0, ro0, sh0, z0⟩ := arg_slice tok (T := Vex.T) (t := 22) (e := 36) (d := 8) (zs := stepZ) rfl rfl rfl rfl rfl (by decide) (hval 0 22 v0 rfl rfl) h0 (fun m hm => hW'.lt m (by simp [hm])) (fun m hm => by simpa using List.all_eq_true.1 hsz m (DataW.weights_mem_each (j := 0) (t := 22) rfl rfl m hm)) (Sat.none W fun _ => ⟨0, 0, 0, 0⟩)
  refine (XCalls.true' s0 (vs := [.slc b0 n0 f0]) ⟨_, _, rfl, vr0, rfl⟩ (law_calls ro0 sh0 z0)).mono fun e W' ⟨he, hb⟩ => ?_
  subst he
  exact ⟨_, rfl, post_true (by kernel_rfl) hW' hb rfl (fun gs hg => by subst hg; rfl) (tb := 4) rfl Try.underlying4 (by decide +kernel)⟩

theorem over : Rows.tablePlaysRow.holds Try.pinned (OpenSpec.ofChange Rows.tablePlaysSpec) :=
  OpenClaim.holds_of_wide 6 Try.f6 rfl rfl rfl rfl rfl rfl rfl ⟨rfl, rfl, rfl, rfl, rfl⟩ rfl rfl rfl rfl rfl (by kernel_rfl) Try.func6 (by kernel_rfl)
    (of_decide_eq_true (by kernel_rfl)) (by unfold Func.isWrapper; first | (rw [if_pos (by decide +kernel)]; kernel_rfl) | (rw [if_neg (by decide +kernel)]; exact ⟨rfl, rfl⟩))
    (fun os started H enc _ => lifted os started H enc)

theorem proved : Rows.TablePlaysSaid :=
  over
#print axioms proved
end Go.Proofs.Yteknlobdnjcdbaa.tablePlays

