/-
  NearOnce of layer 9: whatever the conf and the calls, the law returns true and leaves the input as it was. No condition.
-/
import Derived.Test.YtkpkpnmkoejidaaVexEE
import Derived.Test.YtkpkpnmkoejidaaVexFF
import Derived.Test.YtkpkpnmkoejidaaVexGG
import Derived.Test.YtkpkpnmkoejidaaTab09
import Derived.Test.YtkpkpnmkoejidaaXa09
import Derived.Test.YtkpkpnmkoejidaaXs09
import Derived.Test.YtkpkpnmkoejidaaXk09
import Derived.Test.YtkpkpnmkoejidaaCsa09
import Derived.Test.YtkpkpnmkoejidaaCsb09
import Derived.Test.YtkpkpnmkoejidaaCsc09
import Derived.Test.YtkpkpnmkoejidaaCsd09
import Derived.Test.YtkpkpnmkoejidaaCse09
import Derived.Test.YtkpkpnmkoejidaaCa09
import Derived.Test.YtkpkpnmkoejidaaCb09
import Derived.Test.YtkpkpnmkoejidaaCc09
import Derived.Test.YtkpkpnmkoejidaaCd09
import Derived.Test.YtkpkpnmkoejidaaCe09
import Derived.Test.YtkpkpnmkoejidaaCf09
import Derived.Test.YtkpkpnmkoejidaaCg09
import Derived.Test.YtkpkpnmkoejidaaCh09
import Derived.Test.YtkpkpnmkoejidaaXc09
import Derived.Test.YtkpkpnmkoejidaaRows
import Derived.WalkKit
import Derived.ProofKit
import Derived.OpenShut
import Derived.KernelRfl
set_option linter.unusedVariables false
set_option linter.unusedSimpArgs false
namespace Go.Vex.NearOnce
open Go.Proofs Go.Vex.Nr

def stepZ : List V := [.int .u8 0, .int .u8 0, .int .u64 0, .int .i64 0]

theorem step_form {r : List V} (h : shpBs stepZ r = true) : ∃ d a b c, r = [.int .u8 d, .int .u8 a, .int .u64 b, .int .i64 c] :=
  allSs_spec stepZ r (k := fun r => ∃ d a b c, r = [.int .u8 d, .int .u8 a, .int .u64 b, .int .i64 c]) (fun d a b c => ⟨d, a, b, c, rfl⟩) h

abbrev kU : Int → V := fun n => .int .u64 n
theorem mtW : MT T 42 kU (kK 0) := ⟨(T 42).get rfl, 24, 33, (T 33).get rfl, rfl, rfl, rfl, rfl, KL.int (ti := (T 24).get rfl) rfl rfl⟩

theorem own_ld {a : Option (Nat × Nat)} {l : List Int} {h : Hp} {G : List Nat} (o : Own 1 a l.length (uRows l) h G) {k : Nat} {x : Int} (hx : l[k]? = some x) : ∃ q o, a = some (q, o) ∧ h.ld q (o + k * 1) = some (.int .u64 x) := by
  have hk := (List.getElem?_eq_some_iff.1 hx).1
  obtain ⟨q, o', r, rfl, hr, _, hld, _⟩ := o.ld (k := k) (by omega)
  have : (uRows l)[k]? = some [.int .u64 x] := by unfold uRows; rw [List.getElem?_map, hx]; rfl
  rw [this] at hr
  cases hr
  exact ⟨q, o', rfl, by have := hld 0 (by omega); simpa using this⟩

theorem findG_now (S : NS) (ip num : Int) : (findG S ip num).2.now = S.now := by
  unfold findG
  repeat' split
  all_goals rfl
theorem hearG_now (S : NS) (ip mac : Int) (b : Bool) : (hearG S ip mac b).2.now = S.now := by
  unfold hearG
  repeat' split
  all_goals rfl

/-- the law's heap: the near one, the map of what waits, what the caller gave -/
structure OJ (h0 : Hp) (n c : Nat) (o : O) (mW : Nat) (W : List (Int × Int)) (S : NS) (F : List Nat) (g : Hp) : Prop where
  j : NJ n c o S F g
  w : ∃ ow, g.get mW = some ow ∧ MO kU kK W ow
  wF : mW ∉ F
  wc : c < mW
  hc : h0.next = c
  same : ∀ x, x < h0.next → g.get x = h0.get x

section
variable {h0 : Hp} {n c : Nat} {o : O} {mW : Nat} {W : List (Int × Int)} {S S' : NS} {F F' : List Nat} {g g' : Hp}

theorem OJ.lt (j : OJ h0 n c o mW W S F g) : mW < g.next := by obtain ⟨ow, h, _⟩ := j.w; exact j.j.wf _ _ h
theorem OJ.keeps (j : OJ h0 n c o mW W S F g) (hw : h0.wf) : h0.keeps g := fun x c e hq => by rw [j.same x (hw.lt hq)]; exact hq

theorem OJ.upd (j : OJ h0 n c o mW W S F g) (r : NearR n S' g' F') (u : Upd g g' F F') (w : g'.wf) : OJ h0 n c o mW W S' F' g' :=
  ⟨j.j.upd r u w, by obtain ⟨ow, h, hm⟩ := j.w; exact ⟨ow, by rw [u.same _ j.lt j.wF]; exact h, hm⟩, fun hh => by
    rcases u.new _ hh with h1 | h1
    · exact j.wF h1
    · have := j.lt; omega, j.wc, j.hc, fun x hx => by
    have h1 := j.hc
    have h2 := j.j.lt
    rw [u.same x (by omega) (fun hF => by have := j.j.lo x hF; omega)]; exact j.same x hx⟩

theorem OJ.stay (j : OJ h0 n c o mW W S F g) (q : Quiet g g') : OJ h0 n c o mW W S F g' :=
  j.upd ((NearR.rep _ _).stay j.j.wf j.j.r q.same) (q.upd F) q.wf

theorem OJ.set (j : OJ h0 n c o mW W S F g) {W' : List (Int × Int)} {ow : O} (hm : MO kU kK W' ow) : OJ h0 n c o mW W' S F (g.set mW ow) :=
  have hs : ∀ x, x ≠ mW → (g.set mW ow).get x = g.get x := fun x hx => Hp.get_set_ne hx
  ⟨⟨(NearR.rep _ _).loc _ _ _ (fun x hx => hs x (fun e => j.wF (e ▸ hx))) j.j.r, j.j.lo, by rw [hs c (by have := j.wc; omega)]; exact j.j.sh, j.j.wf.set j.lt⟩, ⟨ow, Hp.get_set_self, hm⟩, j.wF, j.wc, j.hc, fun x hx => by
    have h1 := j.hc
    have h2 := j.wc
    rw [hs x (by omega)]; exact j.same x hx⟩

theorem OJ.put (j : OJ h0 n c o mW W S F g) (x ip : Int) : ∃ g', xput T g 42 (.map (some mW)) (.int .u64 x) (.int .u32 ip) = some g' ∧ OJ h0 n c o mW (mput W x ip) S F g' := by
  obtain ⟨ow, h, hm⟩ := j.w
  obtain ⟨o', hm', hx⟩ := hm.put mtW x ip
  exact ⟨_, hx g mW h, j.set hm'⟩

theorem OJ.del (j : OJ h0 n c o mW W S F g) (x : Int) : ∃ g', xdel T g 42 (.map (some mW)) (.int .u64 x) = some g' ∧ OJ h0 n c o mW (mdel W x) S F g' ∧ ∀ y, y ≠ mW → g'.get y = g.get y := by
  obtain ⟨ow, h, hm⟩ := j.w
  obtain ⟨o', hm', hx⟩ := hm.del mtW x
  exact ⟨_, hx g mW h, j.set hm', fun y hy => Hp.get_set_ne hy⟩

theorem OJ.get (j : OJ h0 n c o mW W S F g) (x : Int) : xlook T g 42 (.map (some mW)) (.int .u64 x) false = some (.int .u32 ((mget W x).getD 0)) := by
  obtain ⟨ow, h, hm⟩ := j.w
  rw [hm.look mtW x g mW h, lookV_getD]
theorem OJ.get2 (j : OJ h0 n c o mW W S F g) (x : Int) : xlook T g 42 (.map (some mW)) (.int .u64 x) true = some (.tup [.int .u32 ((mget W x).getD 0), .bool (mget W x).isSome]) := by
  obtain ⟨ow, h, hm⟩ := j.w
  rw [hm.look2 mtW x g mW h, lookV_getD]
theorem OJ.len (j : OJ h0 n c o mW W S F g) : xlen T g 42 (.map (some mW)) = some (.int .i64 W.length) := by
  obtain ⟨ow, h, hm⟩ := j.w
  exact hm.len mtW g mW h
end

set_option maxRecDepth 20000 in
theorem law_calls (most : Int) (w0 : IntKind.i64.min ≤ most ∧ most ≤ IntKind.i64.max) (waits : Int) (w1 : IntKind.i64.min ≤ waits ∧ waits ≤ IntKind.i64.max) (each : Int) (w2 : IntKind.i64.min ≤ each ∧ each ≤ IntKind.i64.max) (known : Int) (w3 : IntKind.i64.min ≤ known ∧ known ≤ IntKind.i64.max) (asks : Int) (w4 : IntKind.i64.min ≤ asks ∧ asks ≤ IntKind.i64.max) (pause : Int) (w5 : IntKind.i64.min ≤ pause ∧ pause ≤ IntKind.i64.max)
    {h : Hp} {a : Option (Nat × Nat)} {n' : Nat} {f : Bool} {rows : List (List V)} (ha : RoSlc h a n' rows 4)
    (hr0 : ∀ r ∈ rows, shpBs stepZ r = true ∧ ∀ v ∈ r, v.fits) (hbz : n' * Try.prog.bytesOf 44 ≤ reachBytes) : XCalls Try.prog 4 [.agg [.int .i64 most, .int .i64 waits, .int .i64 each, .int .i64 known, .int .i64 asks, .int .i64 pause], .slc a n' f] h fun v _ => v = .bool true := by
  have hr : ∀ r ∈ rows, shpBs stepZ r = true := fun r h => (hr0 r h).1
  have hz : ∀ r ∈ rows, r.length = 4 := fun r h => shpBs_length (hr r h)
  refine XCalls.ofWf fun hw => ?_
  refine XCalls.cps fun K hK => ?_
  have KT : ∀ h', K (.bool true) h' := fun h' => hK _ _ rfl
  apply x4; unfold X4
  rintro h1 rfl
  obtain ⟨cf, hcf⟩ : ∃ cf : Cf, cf = ⟨most, waits, each, known, asks, pause⟩ := ⟨_, rfl⟩
  obtain ⟨o, ho⟩ : ∃ o, o = O.row [.int .i64 most, .int .i64 waits, .int .i64 each, .int .i64 known, .int .i64 asks, .int .i64 pause] 1 false := ⟨_, rfl⟩
  rw [← ho]
  have q1 := Quiet.alloc hw o
  have g1 : (h.alloc o).get h.next = some o := Hp.get_alloc_self
  generalize h.alloc o = h1 at *
  have rd : ∀ {g' : Hp}, g'.get h.next = some o → g'.ld h.next 1 = some (.int .i64 waits) ∧ g'.ld h.next 4 = some (.int .i64 asks) ∧ g'.ld h.next 5 = some (.int .i64 pause) := fun {g'} hg => by
    subst ho
    exact ⟨by simp (disch := (first | omega | (simp only [Hp.alloc_next, Hp.set_next] <;> omega) | (simp (disch := (first | omega | (simp only [Hp.alloc_next, Hp.set_next] <;> omega) | fail)) only [Hp.get_set_self, Hp.get_set_ne, Hp.get_alloc_self, Hp.get_alloc_ne, Hp.get_alloc_at, Hp.get_set_at, Hp.set_next, Hp.alloc_next, hg]; done) | fail)) only [Hp.st, Hp.ld, Hp.lda, splice, ble_eq', if_true, if_false, ite_true, ite_false, cond_true, cond_false, decide_true, decide_false, List.length_cons, List.length_nil, List.take_zero, List.take_succ_cons, List.nil_append, List.cons_append, List.append_nil, List.drop_succ_cons, List.drop_zero, List.drop_nil, List.getElem?_cons_succ, List.getElem?_cons_zero, Nat.reduceAdd, Nat.reduceLeDiff, Nat.reduceEqDiff, Nat.zero_add, Nat.add_zero, Nat.le_refl, Nat.zero_le, Nat.succ_ne_self, Nat.mul_one, Int.toNat_natCast, Option.some.injEq, Option.isNone_some, Option.isNone_none, V.int.injEq, V.str.injEq, V.bool.injEq, V.ptr.injEq, V.slc.injEq, V.map.injEq, V.agg.injEq, V.tup.injEq, List.cons.injEq, Prod.mk.injEq, onS, true_and, and_true, and_assoc, exists_and_left, exists_eq_left', forall_eq, heq_eq_eq, reduceCtorEq, Bool.not_true, Bool.not_false, eq_self, not_false_eq_true, Nat.left_eq_add, Nat.add_eq_left, Nat.add_left_cancel_iff, Nat.add_right_cancel_iff, Nat.reduceEqDiff, Nat.one_ne_zero, Hp.get_set_self, Hp.get_set_ne, Hp.get_alloc_self, Hp.get_alloc_ne, Hp.get_alloc_at, Hp.get_set_at, Hp.set_next, Hp.alloc_next, Option.some_ne_none, V.tup.injEq, Option.isSome_some, Option.isSome_none, exists_eq_left, exists_eq, Nat.mul_zero, hg], by simp (disch := (first | omega | (simp only [Hp.alloc_next, Hp.set_next] <;> omega) | (simp (disch := (first | omega | (simp only [Hp.alloc_next, Hp.set_next] <;> omega) | fail)) only [Hp.get_set_self, Hp.get_set_ne, Hp.get_alloc_self, Hp.get_alloc_ne, Hp.get_alloc_at, Hp.get_set_at, Hp.set_next, Hp.alloc_next, hg]; done) | fail)) only [Hp.st, Hp.ld, Hp.lda, splice, ble_eq', if_true, if_false, ite_true, ite_false, cond_true, cond_false, decide_true, decide_false, List.length_cons, List.length_nil, List.take_zero, List.take_succ_cons, List.nil_append, List.cons_append, List.append_nil, List.drop_succ_cons, List.drop_zero, List.drop_nil, List.getElem?_cons_succ, List.getElem?_cons_zero, Nat.reduceAdd, Nat.reduceLeDiff, Nat.reduceEqDiff, Nat.zero_add, Nat.add_zero, Nat.le_refl, Nat.zero_le, Nat.succ_ne_self, Nat.mul_one, Int.toNat_natCast, Option.some.injEq, Option.isNone_some, Option.isNone_none, V.int.injEq, V.str.injEq, V.bool.injEq, V.ptr.injEq, V.slc.injEq, V.map.injEq, V.agg.injEq, V.tup.injEq, List.cons.injEq, Prod.mk.injEq, onS, true_and, and_true, and_assoc, exists_and_left, exists_eq_left', forall_eq, heq_eq_eq, reduceCtorEq, Bool.not_true, Bool.not_false, eq_self, not_false_eq_true, Nat.left_eq_add, Nat.add_eq_left, Nat.add_left_cancel_iff, Nat.add_right_cancel_iff, Nat.reduceEqDiff, Nat.one_ne_zero, Hp.get_set_self, Hp.get_set_ne, Hp.get_alloc_self, Hp.get_alloc_ne, Hp.get_alloc_at, Hp.get_set_at, Hp.set_next, Hp.alloc_next, Option.some_ne_none, V.tup.injEq, Option.isSome_some, Option.isSome_none, exists_eq_left, exists_eq, Nat.mul_zero, hg], by simp (disch := (first | omega | (simp only [Hp.alloc_next, Hp.set_next] <;> omega) | (simp (disch := (first | omega | (simp only [Hp.alloc_next, Hp.set_next] <;> omega) | fail)) only [Hp.get_set_self, Hp.get_set_ne, Hp.get_alloc_self, Hp.get_alloc_ne, Hp.get_alloc_at, Hp.get_set_at, Hp.set_next, Hp.alloc_next, hg]; done) | fail)) only [Hp.st, Hp.ld, Hp.lda, splice, ble_eq', if_true, if_false, ite_true, ite_false, cond_true, cond_false, decide_true, decide_false, List.length_cons, List.length_nil, List.take_zero, List.take_succ_cons, List.nil_append, List.cons_append, List.append_nil, List.drop_succ_cons, List.drop_zero, List.drop_nil, List.getElem?_cons_succ, List.getElem?_cons_zero, Nat.reduceAdd, Nat.reduceLeDiff, Nat.reduceEqDiff, Nat.zero_add, Nat.add_zero, Nat.le_refl, Nat.zero_le, Nat.succ_ne_self, Nat.mul_one, Int.toNat_natCast, Option.some.injEq, Option.isNone_some, Option.isNone_none, V.int.injEq, V.str.injEq, V.bool.injEq, V.ptr.injEq, V.slc.injEq, V.map.injEq, V.agg.injEq, V.tup.injEq, List.cons.injEq, Prod.mk.injEq, onS, true_and, and_true, and_assoc, exists_and_left, exists_eq_left', forall_eq, heq_eq_eq, reduceCtorEq, Bool.not_true, Bool.not_false, eq_self, not_false_eq_true, Nat.left_eq_add, Nat.add_eq_left, Nat.add_left_cancel_iff, Nat.add_right_cancel_iff, Nat.reduceEqDiff, Nat.one_ne_zero, Hp.get_set_self, Hp.get_set_ne, Hp.get_alloc_self, Hp.get_alloc_ne, Hp.get_alloc_at, Hp.get_set_at, Hp.set_next, Hp.alloc_next, Option.some_ne_none, V.tup.injEq, Option.isSome_some, Option.isSome_none, exists_eq_left, exists_eq, Nat.mul_zero, hg]⟩
  refine ⟨most, waits, each, known, asks, pause, by subst ho; simp (disch := (first | omega | (simp only [Hp.alloc_next, Hp.set_next] <;> omega) | (simp (disch := (first | omega | (simp only [Hp.alloc_next, Hp.set_next] <;> omega) | fail)) only [Hp.get_set_self, Hp.get_set_ne, Hp.get_alloc_self, Hp.get_alloc_ne, Hp.get_alloc_at, Hp.get_set_at, Hp.set_next, Hp.alloc_next, g1]; done) | fail)) only [Hp.st, Hp.ld, Hp.lda, splice, ble_eq', if_true, if_false, ite_true, ite_false, cond_true, cond_false, decide_true, decide_false, List.length_cons, List.length_nil, List.take_zero, List.take_succ_cons, List.nil_append, List.cons_append, List.append_nil, List.drop_succ_cons, List.drop_zero, List.drop_nil, List.getElem?_cons_succ, List.getElem?_cons_zero, Nat.reduceAdd, Nat.reduceLeDiff, Nat.reduceEqDiff, Nat.zero_add, Nat.add_zero, Nat.le_refl, Nat.zero_le, Nat.succ_ne_self, Nat.mul_one, Int.toNat_natCast, Option.some.injEq, Option.isNone_some, Option.isNone_none, V.int.injEq, V.str.injEq, V.bool.injEq, V.ptr.injEq, V.slc.injEq, V.map.injEq, V.agg.injEq, V.tup.injEq, List.cons.injEq, Prod.mk.injEq, onS, true_and, and_true, and_assoc, exists_and_left, exists_eq_left', forall_eq, heq_eq_eq, reduceCtorEq, Bool.not_true, Bool.not_false, eq_self, not_false_eq_true, Nat.left_eq_add, Nat.add_eq_left, Nat.add_left_cancel_iff, Nat.add_right_cancel_iff, Nat.reduceEqDiff, Nat.one_ne_zero, Hp.get_set_self, Hp.get_set_ne, Hp.get_alloc_self, Hp.get_alloc_ne, Hp.get_alloc_at, Hp.get_set_at, Hp.set_next, Hp.alloc_next, Option.some_ne_none, V.tup.injEq, Option.isSome_some, Option.isSome_none, exists_eq_left, exists_eq, Nat.mul_zero, g1], ?_⟩
  have hns := new_spec q1.wf cf
  rw [hcf] at hns
  refine hns.mono ?_
  rintro _ h2 (⟨rfl, q2⟩ | ⟨n, F, rfl, ok, r2, q2, hF⟩)
  · refine ⟨_, _, rfl, ?_⟩
    cases ltI 200 (↑n') with
    | true => exact alive_spec fun h' => ⟨_, rfl, KT _⟩
    | false => exact alive_spec fun h' => ⟨_, rfl, KT _⟩
  rw [← hcf] at ok r2
  refine ⟨_, _, rfl, ?_⟩
  cases c1 : ltI 200 (↑n') with
  | true => exact alive_spec fun h' => ⟨_, rfl, KT _⟩
  | false =>
  have hl1 : h.next < h1.next := q1.wf _ _ g1
  have g2 : h2.get h.next = some o := by rw [q2.same _ hl1]; exact g1
  obtain ⟨d1, d4, d5⟩ := rd g2
  refine ⟨asks, d4, ?_⟩
  cases c2 : ltI 100 asks with
  | true => exact alive_spec fun h' => ⟨_, rfl, KT _⟩
  | false =>
  refine ⟨pause, d5, ?_⟩
  cases c3 : ltI pause 1048576 with
  | false => exact alive_spec fun h' => ⟨_, rfl, KT _⟩
  | true =>
  rw [ltI_eq, decide_eq_false_iff_not] at c1 c2
  rw [ltI_eq, decide_eq_true_eq] at c3
  rintro h3 rfl
  have q3 := Quiet.alloc q2.wf (.map [] 0)
  have g3 : (h2.alloc (.map [] 0)).get h2.next = some (.map [] 0) := Hp.get_alloc_self
  have n3 : (h2.alloc (.map [] 0)).next = h2.next + 1 := Hp.alloc_next _ _
  generalize h2.alloc (.map [] 0) = h3 at *
  have hq2l := q2.le
  have hFl : ∀ j ∈ F, j < h2.next := fun j hj => (NearR.rep _ _).lt q2.wf r2 hj
  have J0 : OJ h n h.next o h2.next [] ⟨cf, 0, 0, []⟩ F h3 := ⟨⟨(NearR.rep _ _).stay q2.wf r2 q3.same, fun j hj => by have := hF j hj; omega, by rw [q3.same _ (by omega)]; exact g2, q3.wf⟩, ⟨_, g3, MO.nil _ _⟩, fun hh => by have := hFl _ hh; omega, by omega, rfl, fun x hx => by rw [q3.same x (by omega), q2.same x (by omega), q1.same x hx]⟩
  generalize h2.next = mW at *
  have okw := ok.waits
  have oka := ok.asks
  have okp := ok.pause
  have f1 : cf.waits = waits := by rw [hcf]
  have f5 : cf.asks = asks := by rw [hcf]
  have f6 : cf.pause = pause := by rw [hcf]
  rw [f1] at okw
  rw [f5] at oka
  rw [f6] at okp
  clear q1 q2 q3 g1 g2 g3 n3 r2 hF hFl hq2l hl1 d1 d4 d5 w0 w1 w2 w3 w4 w5
  refine ⟨fun vs g => match vs with
    | [.int _ nw, .int _ i] => ∃ (k : Nat) (S : NS) (W : List (Int × Int)) (F : List Nat), i = k ∧ (k : Int) ≤ n' + 8 * (asks + 2) ∧ nw = S.now ∧ S.now ≤ k * 1048576 ∧ OJ h n h.next o mW W S F g ∧ Inv cf S W k ∧ Phase S ((k : Int) - n')
    | _ => False, fun vs _ => match vs with
    | [.int _ _, .int _ i] => ((n' : Int) + 8 * (asks + 2)).toNat - i.toNat
    | _ => 0, ⟨rfl, 0, ⟨cf, 0, 0, []⟩, [], F, rfl, by omega, rfl, by show (0 : Int) ≤ _; omega, J0, Inv.start ok, fun ip e he => by cases he⟩, ?_⟩
  clear J0 F
  rintro bs1 nw i g ⟨k, S, W, F, rfl, hkN, rfl, hnk, J, I0, ph⟩
  obtain ⟨d1, d4, d5⟩ := rd J.j.sh
  have hwN : IntKind.i64.wrap ((n' : Int) + IntKind.i64.wrap (8 * IntKind.i64.wrap (asks + 2))) = (n' : Int) + 8 * (asks + 2) := by
    rw [wr (x := asks + 2) (by omega) (by omega), wr (x := 8 * (asks + 2)) (by omega) (by omega)]
    exact wr (by omega) (by omega)
  refine ⟨asks, d4, ?_⟩
  rw [hwN]
  have hesl : S.es.length ≤ 2000 := by have := I0.len; have := ok.most; omega
  cases hi : ltI (↑k) ((n' : Int) + 8 * (asks + 2)) with
  | false =>
    rw [ltI_eq, decide_eq_false_iff_not] at hi
    refine (waits_spec J.j.wf J.j.r (I0.wsok ok) hesl).mono ?_
    rintro _ g2 ⟨x, f, rfl, q⟩
    rw [I0.done ph (by rw [f5]; omega)]
    exact ⟨_, _, _, rfl, alive_spec fun h' => ⟨_, rfl, KT _⟩⟩
  | true =>
  rw [ltI_eq, decide_eq_true_eq] at hi
  have hk1 : k < 1016 := by omega
  refine ⟨pause, d5, ?_⟩
  rintro g5 rfl
  refine ⟨_, Hp.st_of Hp.get_alloc_self (Nat.le_of_ble_eq_true rfl), ?_⟩
  obtain ⟨g6, hg6⟩ : ∃ g6, g6 = (g.alloc (.row [.int .u8 0, .int .u8 0, .int .u64 0, .int .i64 0] 1 false)).set g.next (.row (splice [.int .u8 0, .int .u8 0, .int .u64 0, .int .i64 0] 0 [.int .u8 5, .int .u8 0, .int .u64 0, .int .i64 pause]) 1 false) := ⟨_, rfl⟩
  rw [← hg6]
  have c6 : g6.get g.next = some (.row [.int .u8 5, .int .u8 0, .int .u64 0, .int .i64 pause] 1 false) := by rw [hg6, Hp.get_set_self]; rfl
  have q6 : Quiet g g6 := by rw [hg6]; exact ⟨fun j hj => by simp (disch := (first | omega | (simp only [Hp.alloc_next, Hp.set_next] <;> omega) | (simp (disch := (first | omega | (simp only [Hp.alloc_next, Hp.set_next] <;> omega) | fail)) only [Hp.get_set_self, Hp.get_set_ne, Hp.get_alloc_self, Hp.get_alloc_ne, Hp.get_alloc_at, Hp.get_set_at, Hp.set_next, Hp.alloc_next]; done) | fail)) only [Hp.st, Hp.ld, Hp.lda, splice, ble_eq', if_true, if_false, ite_true, ite_false, cond_true, cond_false, decide_true, decide_false, List.length_cons, List.length_nil, List.take_zero, List.take_succ_cons, List.nil_append, List.cons_append, List.append_nil, List.drop_succ_cons, List.drop_zero, List.drop_nil, List.getElem?_cons_succ, List.getElem?_cons_zero, Nat.reduceAdd, Nat.reduceLeDiff, Nat.reduceEqDiff, Nat.zero_add, Nat.add_zero, Nat.le_refl, Nat.zero_le, Nat.succ_ne_self, Nat.mul_one, Int.toNat_natCast, Option.some.injEq, Option.isNone_some, Option.isNone_none, V.int.injEq, V.str.injEq, V.bool.injEq, V.ptr.injEq, V.slc.injEq, V.map.injEq, V.agg.injEq, V.tup.injEq, List.cons.injEq, Prod.mk.injEq, onS, true_and, and_true, and_assoc, exists_and_left, exists_eq_left', forall_eq, heq_eq_eq, reduceCtorEq, Bool.not_true, Bool.not_false, eq_self, not_false_eq_true, Nat.left_eq_add, Nat.add_eq_left, Nat.add_left_cancel_iff, Nat.add_right_cancel_iff, Nat.reduceEqDiff, Nat.one_ne_zero, Hp.get_set_self, Hp.get_set_ne, Hp.get_alloc_self, Hp.get_alloc_ne, Hp.get_alloc_at, Hp.get_set_at, Hp.set_next, Hp.alloc_next, Option.some_ne_none, V.tup.injEq, Option.isSome_some, Option.isSome_none, exists_eq_left, exists_eq, Nat.mul_zero], by simp (disch := (first | omega | (simp only [Hp.alloc_next, Hp.set_next] <;> omega) | (simp (disch := (first | omega | (simp only [Hp.alloc_next, Hp.set_next] <;> omega) | fail)) only [Hp.get_set_self, Hp.get_set_ne, Hp.get_alloc_self, Hp.get_alloc_ne, Hp.get_alloc_at, Hp.get_set_at, Hp.set_next, Hp.alloc_next]; done) | fail)) only [Hp.st, Hp.ld, Hp.lda, splice, ble_eq', if_true, if_false, ite_true, ite_false, cond_true, cond_false, decide_true, decide_false, List.length_cons, List.length_nil, List.take_zero, List.take_succ_cons, List.nil_append, List.cons_append, List.append_nil, List.drop_succ_cons, List.drop_zero, List.drop_nil, List.getElem?_cons_succ, List.getElem?_cons_zero, Nat.reduceAdd, Nat.reduceLeDiff, Nat.reduceEqDiff, Nat.zero_add, Nat.add_zero, Nat.le_refl, Nat.zero_le, Nat.succ_ne_self, Nat.mul_one, Int.toNat_natCast, Option.some.injEq, Option.isNone_some, Option.isNone_none, V.int.injEq, V.str.injEq, V.bool.injEq, V.ptr.injEq, V.slc.injEq, V.map.injEq, V.agg.injEq, V.tup.injEq, List.cons.injEq, Prod.mk.injEq, onS, true_and, and_true, and_assoc, exists_and_left, exists_eq_left', forall_eq, heq_eq_eq, reduceCtorEq, Bool.not_true, Bool.not_false, eq_self, not_false_eq_true, Nat.left_eq_add, Nat.add_eq_left, Nat.add_left_cancel_iff, Nat.add_right_cancel_iff, Nat.reduceEqDiff, Nat.one_ne_zero, Hp.get_set_self, Hp.get_set_ne, Hp.get_alloc_self, Hp.get_alloc_ne, Hp.get_alloc_at, Hp.get_set_at, Hp.set_next, Hp.alloc_next, Option.some_ne_none, V.tup.injEq, Option.isSome_some, Option.isSome_none, exists_eq_left, exists_eq, Nat.mul_zero]; omega, J.j.wf.alloc.set (Nat.lt_succ_self _)⟩
  clear hg6
  have hcl : g.next < g6.next := q6.wf _ _ c6
  have J6' := J.stay q6
  refine ⟨fun vs g' => match vs with
    | [] => ∃ dd ipx mc by', g'.get g.next = some (.row [.int .u8 dd, .int .u8 ipx, .int .u64 mc, .int .i64 by'] 1 false) ∧ Quiet g g' ∧ (n' ≤ k → dd = 5 ∧ by' = pause)
    | _ => False, ?_, ?_⟩
  · cases hin : ltI (↑k) (↑n') with
    | false => exact ⟨rfl, _, _, _, _, c6, q6, fun _ => ⟨rfl, rfl⟩⟩
    | true =>
      rw [ltI_eq, decide_eq_true_eq] at hin
      obtain ⟨qa, row, rfl, hrow, hld, hlda⟩ := ha.ld (J6'.keeps hw) (k := k) (by omega) hz
      obtain ⟨dd, ipx, mc, by', rfl⟩ := step_form (hr row (List.mem_of_getElem? hrow))
      refine ⟨⟨by omega, hin⟩, dd, ipx, mc, by', hlda, _, Hp.st_of c6 (Nat.le_of_ble_eq_true rfl), rfl, dd, ipx, mc, by', by rw [Hp.get_set_self]; rfl, ⟨fun j hj => by rw [Hp.get_set_ne (by omega)]; exact q6.same j hj, by show g.next ≤ g6.next; omega, q6.wf.set hcl⟩, fun hh => by omega⟩
  clear c6 q6 J6' hcl
  rintro bs2 g6 ⟨dd, ipx, mc, by', c6, q6, hlate⟩
  have J6 := J.stay q6
  refine ⟨by', by simp (disch := (first | omega | (simp only [Hp.alloc_next, Hp.set_next] <;> omega) | (simp (disch := (first | omega | (simp only [Hp.alloc_next, Hp.set_next] <;> omega) | fail)) only [Hp.get_set_self, Hp.get_set_ne, Hp.get_alloc_self, Hp.get_alloc_ne, Hp.get_alloc_at, Hp.get_set_at, Hp.set_next, Hp.alloc_next, c6]; done) | fail)) only [Hp.st, Hp.ld, Hp.lda, splice, ble_eq', if_true, if_false, ite_true, ite_false, cond_true, cond_false, decide_true, decide_false, List.length_cons, List.length_nil, List.take_zero, List.take_succ_cons, List.nil_append, List.cons_append, List.append_nil, List.drop_succ_cons, List.drop_zero, List.drop_nil, List.getElem?_cons_succ, List.getElem?_cons_zero, Nat.reduceAdd, Nat.reduceLeDiff, Nat.reduceEqDiff, Nat.zero_add, Nat.add_zero, Nat.le_refl, Nat.zero_le, Nat.succ_ne_self, Nat.mul_one, Int.toNat_natCast, Option.some.injEq, Option.isNone_some, Option.isNone_none, V.int.injEq, V.str.injEq, V.bool.injEq, V.ptr.injEq, V.slc.injEq, V.map.injEq, V.agg.injEq, V.tup.injEq, List.cons.injEq, Prod.mk.injEq, onS, true_and, and_true, and_assoc, exists_and_left, exists_eq_left', forall_eq, heq_eq_eq, reduceCtorEq, Bool.not_true, Bool.not_false, eq_self, not_false_eq_true, Nat.left_eq_add, Nat.add_eq_left, Nat.add_left_cancel_iff, Nat.add_right_cancel_iff, Nat.reduceEqDiff, Nat.one_ne_zero, Hp.get_set_self, Hp.get_set_ne, Hp.get_alloc_self, Hp.get_alloc_ne, Hp.get_alloc_at, Hp.get_set_at, Hp.set_next, Hp.alloc_next, Option.some_ne_none, V.tup.injEq, Option.isSome_some, Option.isSome_none, exists_eq_left, exists_eq, Nat.mul_zero, c6], by decide, ipx, by simp (disch := (first | omega | (simp only [Hp.alloc_next, Hp.set_next] <;> omega) | (simp (disch := (first | omega | (simp only [Hp.alloc_next, Hp.set_next] <;> omega) | fail)) only [Hp.get_set_self, Hp.get_set_ne, Hp.get_alloc_self, Hp.get_alloc_ne, Hp.get_alloc_at, Hp.get_set_at, Hp.set_next, Hp.alloc_next, c6]; done) | fail)) only [Hp.st, Hp.ld, Hp.lda, splice, ble_eq', if_true, if_false, ite_true, ite_false, cond_true, cond_false, decide_true, decide_false, List.length_cons, List.length_nil, List.take_zero, List.take_succ_cons, List.nil_append, List.cons_append, List.append_nil, List.drop_succ_cons, List.drop_zero, List.drop_nil, List.getElem?_cons_succ, List.getElem?_cons_zero, Nat.reduceAdd, Nat.reduceLeDiff, Nat.reduceEqDiff, Nat.zero_add, Nat.add_zero, Nat.le_refl, Nat.zero_le, Nat.succ_ne_self, Nat.mul_one, Int.toNat_natCast, Option.some.injEq, Option.isNone_some, Option.isNone_none, V.int.injEq, V.str.injEq, V.bool.injEq, V.ptr.injEq, V.slc.injEq, V.map.injEq, V.agg.injEq, V.tup.injEq, List.cons.injEq, Prod.mk.injEq, onS, true_and, and_true, and_assoc, exists_and_left, exists_eq_left', forall_eq, heq_eq_eq, reduceCtorEq, Bool.not_true, Bool.not_false, eq_self, not_false_eq_true, Nat.left_eq_add, Nat.add_eq_left, Nat.add_left_cancel_iff, Nat.add_right_cancel_iff, Nat.reduceEqDiff, Nat.one_ne_zero, Hp.get_set_self, Hp.get_set_ne, Hp.get_alloc_self, Hp.get_alloc_ne, Hp.get_alloc_at, Hp.get_set_at, Hp.set_next, Hp.alloc_next, Option.some_ne_none, V.tup.injEq, Option.isSome_some, Option.isSome_none, exists_eq_left, exists_eq, Nat.mul_zero, c6], by decide, ?_⟩
  have hS0 := I0.t0
  obtain ⟨T, hT⟩ : ∃ T, T = S.now + bif ltI 0 (by'.tmod 1048576) then by'.tmod 1048576 else 0 := ⟨_, rfl⟩
  have hTb : S.now ≤ T ∧ T ≤ S.now + 1048575 := by
    have h1 := Int.tmod_lt_of_pos by' (show (0 : Int) < 1048576 by decide)
    rw [hT]
    cases hc : ltI 0 (by'.tmod 1048576) with
    | true => rw [ltI_eq, decide_eq_true_eq] at hc; simp only [cond_true]; omega
    | false => simp only [cond_false]; omega
  have hwT : IntKind.i64.wrap (S.now + bif ltI 0 (by'.tmod 1048576) then by'.tmod 1048576 else 0) = T := by rw [← hT]; exact wr (by omega) (by omega)
  have hTp : n' ≤ k → T = S.now + cf.pause := fun hh => by
    obtain ⟨_, e⟩ := hlate hh
    rw [hT, e, Int.tmod_eq_of_lt (by omega) (by omega), show ltI 0 pause = true by rw [ltI_eq, decide_eq_true_eq]; omega, f6]; rfl
  have hT2 : T ≤ ((k + 1 : Nat) : Int) * 1048576 := by push_cast; omega
  rw [hwT]
  generalize IntKind.u32.wrap (ipx.tmod 4) = ip at *
  have wk : IntKind.u64.wrap (k : Int) = k := by rw [wrap_of]; simp [IntKind.min, IntKind.max, IntKind.signed, IntKind.bits]; omega
  have wk1 : IntKind.i64.wrap ((k : Int) + 1) = ((k + 1 : Nat) : Int) := by rw [wr (by omega) (by omega)]; rfl
  rw [wk, wk1]
  obtain ⟨I1, hT1⟩ := I0.time (now := T) hTb.1 (by omega)
  clear hT hwT
  -- what a call leaves
  obtain ⟨QS, hQS⟩ : ∃ QS : Hp → Prop, QS = fun g' => ∃ (S' : NS) (W' : List (Int × Int)) (F' : List Nat), OJ h n h.next o mW W' S' F' g' ∧ Inv cf S' W' (k + 1) ∧ S'.now = T ∧ Phase S' ((k : Int) + 1 - n') := ⟨_, rfl⟩
  refine ⟨fun vs g' => match vs with
    | [.slc x m f] => ∃ (S' : NS) (W' : List (Int × Int)) (F' : List Nat) (out : List Int) (G : List Nat), m = out.length ∧ Own 1 x out.length (uRows out) g' G ∧ mW ∉ G ∧ OJ h n h.next o mW W' S' F' g' ∧ out.Nodup ∧ (∀ y ∈ out, mget W' y ≠ none) ∧ (W'.map Prod.fst).Nodup ∧ W'.length ≤ 1000000 ∧ Inv cf S' (dels W' out) (k + 1) ∧ S'.now = T ∧ Phase S' ((k : Int) + 1 - n')
    | _ => False, ?_, ?_⟩
  · refine ⟨dd, by simp (disch := (first | omega | (simp only [Hp.alloc_next, Hp.set_next] <;> omega) | (simp (disch := (first | omega | (simp only [Hp.alloc_next, Hp.set_next] <;> omega) | fail)) only [Hp.get_set_self, Hp.get_set_ne, Hp.get_alloc_self, Hp.get_alloc_ne, Hp.get_alloc_at, Hp.get_set_at, Hp.set_next, Hp.alloc_next, c6]; done) | fail)) only [Hp.st, Hp.ld, Hp.lda, splice, ble_eq', if_true, if_false, ite_true, ite_false, cond_true, cond_false, decide_true, decide_false, List.length_cons, List.length_nil, List.take_zero, List.take_succ_cons, List.nil_append, List.cons_append, List.append_nil, List.drop_succ_cons, List.drop_zero, List.drop_nil, List.getElem?_cons_succ, List.getElem?_cons_zero, Nat.reduceAdd, Nat.reduceLeDiff, Nat.reduceEqDiff, Nat.zero_add, Nat.add_zero, Nat.le_refl, Nat.zero_le, Nat.succ_ne_self, Nat.mul_one, Int.toNat_natCast, Option.some.injEq, Option.isNone_some, Option.isNone_none, V.int.injEq, V.str.injEq, V.bool.injEq, V.ptr.injEq, V.slc.injEq, V.map.injEq, V.agg.injEq, V.tup.injEq, List.cons.injEq, Prod.mk.injEq, onS, true_and, and_true, and_assoc, exists_and_left, exists_eq_left', forall_eq, heq_eq_eq, reduceCtorEq, Bool.not_true, Bool.not_false, eq_self, not_false_eq_true, Nat.left_eq_add, Nat.add_eq_left, Nat.add_left_cancel_iff, Nat.add_right_cancel_iff, Nat.reduceEqDiff, Nat.one_ne_zero, Hp.get_set_self, Hp.get_set_ne, Hp.get_alloc_self, Hp.get_alloc_ne, Hp.get_alloc_at, Hp.get_set_at, Hp.set_next, Hp.alloc_next, Option.some_ne_none, V.tup.injEq, Option.isSome_some, Option.isSome_none, exists_eq_left, exists_eq, Nat.mul_zero, c6], by decide, ?_⟩
    have q2of : ∀ {g'}, QS g' → ∃ (S' : NS) (W' : List (Int × Int)) (F' : List Nat) (out : List Int) (G : List Nat), 0 = out.length ∧ Own 1 none out.length (uRows out) g' G ∧ mW ∉ G ∧ OJ h n h.next o mW W' S' F' g' ∧ out.Nodup ∧ (∀ y ∈ out, mget W' y ≠ none) ∧ (W'.map Prod.fst).Nodup ∧ W'.length ≤ 1000000 ∧ Inv cf S' (dels W' out) (k + 1) ∧ S'.now = T ∧ Phase S' ((k : Int) + 1 - n') := fun {g'} hq => by
      rw [hQS] at hq
      obtain ⟨S', W', F', J', I', hn', hp'⟩ := hq
      exact ⟨S', W', F', [], [], rfl, Own.nil _ _, by simp, J', by simp, by simp, I'.wnd, by have := I'.wlen; have := I'.hw; omega, I', hn', hp'⟩
    have phn : ¬ n' ≤ k → ∀ {S' : NS} {W' : List (Int × Int)}, Inv cf S' W' (k + 1) → Phase S' ((k : Int) + 1 - n') := fun hkn {S' W'} hI y e he hst => by
      have := (hI.ent y e he).ask hst
      omega
    have mkQ : ¬ n' ≤ k → ∀ {S' : NS} {W' : List (Int × Int)} {F' : List Nat} {g' : Hp}, OJ h n h.next o mW W' S' F' g' → Inv cf S' W' (k + 1) → S'.now = (timeF S T).now → QS g' := fun hkn {S' W' F' g'} hJ hI hn => by
      rw [hQS]; exact ⟨S', W', F', hJ, hI, hn.trans hT1, phn hkn hI⟩
    cases e0 : dd.tmod 7 == 0 with
    | true =>
      have hkn : ¬ n' ≤ k := fun hh => by rw [(hlate hh).1] at e0; exact absurd e0 (by decide)
      refine (find_spec J6.j.wf J6.j.r (I0.wsok ok) ip k T).mono ?_
      rintro _ g7 ⟨rfl, F7, r7, u7, w7⟩
      have hf := I1.find ok (by rw [hT1]; omega) ip
      have hff : findF S ip k T = findG (timeF S T) ip k := rfl
      have J7 := J6.upd r7 u7 w7
      rw [hff] at J7 ⊢
      refine ⟨_, _, _, _, rfl, fun vs g' => match vs with
        | [] => QS g'
        | _ => False, ?_, ?_⟩
      · rcases hf with ⟨mac, as', hr, hI⟩ | ⟨hr, hI⟩ | ⟨as', hr, hI⟩
        · rw [hr]
          exact ⟨rfl, mkQ hkn J7 hI (findG_now _ _ _)⟩
        · rw [hr]
          exact ⟨rfl, mkQ hkn J7 hI (findG_now _ _ _)⟩
        · rw [hr]
          obtain ⟨g8, hx8, J8⟩ := J7.put k ip
          exact ⟨g8, hx8, rfl, mkQ hkn J8 hI (findG_now _ _ _)⟩
      · rintro bs3 g8 hQ
        have hq2 := q2of hQ
        rcases hf with ⟨mac, as', hr, hI⟩ | ⟨hr, hI⟩ | ⟨as', hr, hI⟩
        · rw [hr]; exact ⟨rfl, hq2⟩
        · rw [hr]; exact ⟨rfl, hq2⟩
        · rw [hr]; exact ⟨rfl, hq2⟩
    | false =>
    cases e1 : dd.tmod 7 == 1 with
    | true =>
      have hkn : ¬ n' ≤ k := fun hh => by rw [(hlate hh).1] at e1; exact absurd e1 (by decide)
      refine (find_spec J6.j.wf J6.j.r (I0.wsok ok) ip k T).mono ?_
      rintro _ g7 ⟨rfl, F7, r7, u7, w7⟩
      have hf := I1.find ok (by rw [hT1]; omega) ip
      have hff : findF S ip k T = findG (timeF S T) ip k := rfl
      have J7 := J6.upd r7 u7 w7
      rw [hff] at J7 ⊢
      refine ⟨_, _, _, _, rfl, fun vs g' => match vs with
        | [] => QS g'
        | _ => False, ?_, ?_⟩
      · rcases hf with ⟨mac, as', hr, hI⟩ | ⟨hr, hI⟩ | ⟨as', hr, hI⟩
        · rw [hr]
          exact ⟨rfl, mkQ hkn J7 hI (findG_now _ _ _)⟩
        · rw [hr]
          exact ⟨rfl, mkQ hkn J7 hI (findG_now _ _ _)⟩
        · rw [hr]
          obtain ⟨g8, hx8, J8⟩ := J7.put k ip
          exact ⟨g8, hx8, rfl, mkQ hkn J8 hI (findG_now _ _ _)⟩
      · rintro bs3 g8 hQ
        have hq2 := q2of hQ
        rcases hf with ⟨mac, as', hr, hI⟩ | ⟨hr, hI⟩ | ⟨as', hr, hI⟩
        · rw [hr]; exact ⟨rfl, hq2⟩
        · rw [hr]; exact ⟨rfl, hq2⟩
        · rw [hr]; exact ⟨rfl, hq2⟩
    | false =>
    cases e2 : dd.tmod 7 == 2 with
    | true =>
      have hkn : ¬ n' ≤ k := fun hh => by rw [(hlate hh).1] at e2; exact absurd e2 (by decide)
      refine (find_spec J6.j.wf J6.j.r (I0.wsok ok) ip k T).mono ?_
      rintro _ g7 ⟨rfl, F7, r7, u7, w7⟩
      have hf := I1.find ok (by rw [hT1]; omega) ip
      have hff : findF S ip k T = findG (timeF S T) ip k := rfl
      have J7 := J6.upd r7 u7 w7
      rw [hff] at J7 ⊢
      refine ⟨_, _, _, _, rfl, fun vs g' => match vs with
        | [] => QS g'
        | _ => False, ?_, ?_⟩
      · rcases hf with ⟨mac, as', hr, hI⟩ | ⟨hr, hI⟩ | ⟨as', hr, hI⟩
        · rw [hr]
          exact ⟨rfl, mkQ hkn J7 hI (findG_now _ _ _)⟩
        · rw [hr]
          exact ⟨rfl, mkQ hkn J7 hI (findG_now _ _ _)⟩
        · rw [hr]
          obtain ⟨g8, hx8, J8⟩ := J7.put k ip
          exact ⟨g8, hx8, rfl, mkQ hkn J8 hI (findG_now _ _ _)⟩
      · rintro bs3 g8 hQ
        have hq2 := q2of hQ
        rcases hf with ⟨mac, as', hr, hI⟩ | ⟨hr, hI⟩ | ⟨as', hr, hI⟩
        · rw [hr]; exact ⟨rfl, hq2⟩
        · rw [hr]; exact ⟨rfl, hq2⟩
        · rw [hr]; exact ⟨rfl, hq2⟩
    | false =>
    cases e3 : dd.tmod 7 == 3 with
    | true =>
      have hkn : ¬ n' ≤ k := fun hh => by rw [(hlate hh).1] at e3; exact absurd e3 (by decide)
      refine ⟨mc, by simp (disch := (first | omega | (simp only [Hp.alloc_next, Hp.set_next] <;> omega) | (simp (disch := (first | omega | (simp only [Hp.alloc_next, Hp.set_next] <;> omega) | fail)) only [Hp.get_set_self, Hp.get_set_ne, Hp.get_alloc_self, Hp.get_alloc_ne, Hp.get_alloc_at, Hp.get_set_at, Hp.set_next, Hp.alloc_next, c6]; done) | fail)) only [Hp.st, Hp.ld, Hp.lda, splice, ble_eq', if_true, if_false, ite_true, ite_false, cond_true, cond_false, decide_true, decide_false, List.length_cons, List.length_nil, List.take_zero, List.take_succ_cons, List.nil_append, List.cons_append, List.append_nil, List.drop_succ_cons, List.drop_zero, List.drop_nil, List.getElem?_cons_succ, List.getElem?_cons_zero, Nat.reduceAdd, Nat.reduceLeDiff, Nat.reduceEqDiff, Nat.zero_add, Nat.add_zero, Nat.le_refl, Nat.zero_le, Nat.succ_ne_self, Nat.mul_one, Int.toNat_natCast, Option.some.injEq, Option.isNone_some, Option.isNone_none, V.int.injEq, V.str.injEq, V.bool.injEq, V.ptr.injEq, V.slc.injEq, V.map.injEq, V.agg.injEq, V.tup.injEq, List.cons.injEq, Prod.mk.injEq, onS, true_and, and_true, and_assoc, exists_and_left, exists_eq_left', forall_eq, heq_eq_eq, reduceCtorEq, Bool.not_true, Bool.not_false, eq_self, not_false_eq_true, Nat.left_eq_add, Nat.add_eq_left, Nat.add_left_cancel_iff, Nat.add_right_cancel_iff, Nat.reduceEqDiff, Nat.one_ne_zero, Hp.get_set_self, Hp.get_set_ne, Hp.get_alloc_self, Hp.get_alloc_ne, Hp.get_alloc_at, Hp.get_set_at, Hp.set_next, Hp.alloc_next, Option.some_ne_none, V.tup.injEq, Option.isSome_some, Option.isSome_none, exists_eq_left, exists_eq, Nat.mul_zero, c6], dd, by simp (disch := (first | omega | (simp only [Hp.alloc_next, Hp.set_next] <;> omega) | (simp (disch := (first | omega | (simp only [Hp.alloc_next, Hp.set_next] <;> omega) | fail)) only [Hp.get_set_self, Hp.get_set_ne, Hp.get_alloc_self, Hp.get_alloc_ne, Hp.get_alloc_at, Hp.get_set_at, Hp.set_next, Hp.alloc_next, c6]; done) | fail)) only [Hp.st, Hp.ld, Hp.lda, splice, ble_eq', if_true, if_false, ite_true, ite_false, cond_true, cond_false, decide_true, decide_false, List.length_cons, List.length_nil, List.take_zero, List.take_succ_cons, List.nil_append, List.cons_append, List.append_nil, List.drop_succ_cons, List.drop_zero, List.drop_nil, List.getElem?_cons_succ, List.getElem?_cons_zero, Nat.reduceAdd, Nat.reduceLeDiff, Nat.reduceEqDiff, Nat.zero_add, Nat.add_zero, Nat.le_refl, Nat.zero_le, Nat.succ_ne_self, Nat.mul_one, Int.toNat_natCast, Option.some.injEq, Option.isNone_some, Option.isNone_none, V.int.injEq, V.str.injEq, V.bool.injEq, V.ptr.injEq, V.slc.injEq, V.map.injEq, V.agg.injEq, V.tup.injEq, List.cons.injEq, Prod.mk.injEq, onS, true_and, and_true, and_assoc, exists_and_left, exists_eq_left', forall_eq, heq_eq_eq, reduceCtorEq, Bool.not_true, Bool.not_false, eq_self, not_false_eq_true, Nat.left_eq_add, Nat.add_eq_left, Nat.add_left_cancel_iff, Nat.add_right_cancel_iff, Nat.reduceEqDiff, Nat.one_ne_zero, Hp.get_set_self, Hp.get_set_ne, Hp.get_alloc_self, Hp.get_alloc_ne, Hp.get_alloc_at, Hp.get_set_at, Hp.set_next, Hp.alloc_next, Option.some_ne_none, V.tup.injEq, Option.isSome_some, Option.isSome_none, exists_eq_left, exists_eq, Nat.mul_zero, c6], by decide, ?_⟩
      rw [show (dd.tmod 7 == 3) = true from e3]
      refine (hear_spec J6.j.wf J6.j.r ip mc true T).mono ?_
      rintro _ g7 ⟨x7, f7, G7, F7, rfl, o7, hG7, r7, u7, w7⟩
      have hff : hearF S ip mc true T = hearG (timeF S T) ip mc true := rfl
      have J7 := J6.upd r7 u7 w7
      obtain ⟨hI, hnd, hinc, hin⟩ := I1.hear ok ip mc true
      have hnow := hearG_now (timeF S T) ip mc true
      rw [hff] at o7 J7 ⊢
      generalize hearG (timeF S T) ip mc true = rr at *
      obtain ⟨out, S'⟩ := rr
      dsimp only at o7 J7 hI hnd hinc hin hnow ⊢
      have hWG : mW ∉ G7 := fun hh => by
        rcases (hG7 _ hh).2 with h1 | h1
        · exact J6.wF h1
        · have := J6.lt; omega
      have hol : out.length ≤ 1000000 := by
        have h1 := dels_len out I1.wnd hnd (fun x hx => by rw [hin x hx]; simp)
        have h2 := I1.wlen
        have h3 := I1.hw
        have h4 := ok.waits
        omega
      refine ⟨_, _, _, rfl, fun vs g' => match vs with
        | [.int _ i'] => g' = g7 ∧ ∃ m : Nat, i' = m ∧ m ≤ out.length
        | _ => False, fun vs _ => match vs with
        | [.int _ i'] => out.length - i'.toNat
        | _ => 0, ⟨rfl, rfl, 0, rfl, by omega⟩, ?_⟩
      rintro bs4 i4 g8 ⟨rfl, m, rfl, hm⟩
      cases hi4 : ltI (↑m) (↑out.length) with
      | false =>
        refine ⟨rfl, S', W, F7, out, G7, rfl, o7, hWG, J7, hnd, fun y hy => by rw [hin y hy]; simp, I1.wnd, by have := I1.wlen; have := I1.hw; omega, hI.weak, hnow.trans hT1, ?_⟩
        exact phn hkn hI.weak
      | true =>
        rw [ltI_eq, decide_eq_true_eq] at hi4
        have hm' : m < out.length := by omega
        obtain ⟨y, hy⟩ : ∃ y, out[m]? = some y := ⟨_, List.getElem?_eq_getElem hm'⟩
        obtain ⟨qs, os, rfl, hld⟩ := own_ld o7 hy
        have hwm : IntKind.i64.wrap ((m : Int) + 1) = ((m + 1 : Nat) : Int) := by rw [wr (by omega) (by omega)]; rfl
        have hyW := hin y (List.mem_of_getElem? hy)
        refine ⟨⟨by omega, hi4⟩, y, by rw [Int.toNat_natCast]; exact hld, ip, by rw [J7.get y, hyW]; rfl, ?_⟩
        rw [bne_self_eq_false]
        have stop : IntKind.i64.wrap ((m : Int) + 1) = ((m + 1 : Nat) : Int) := hwm
        cases h0m : ltI 0 (↑m : Int) with
        | false =>
          rw [hwm]
          exact ⟨rfl, ⟨rfl, m + 1, rfl, by omega⟩, by show out.length - ((m + 1 : Nat) : Int).toNat < out.length - (m : Int).toNat; omega⟩
        | true =>
          rw [ltI_eq, decide_eq_true_eq] at h0m
          obtain ⟨z, hz⟩ : ∃ z, out[m - 1]? = some z := ⟨_, List.getElem?_eq_getElem (by omega)⟩
          obtain ⟨qs', os', e', hld'⟩ := own_ld o7 hz
          cases e'
          have hwm1 : IntKind.i64.wrap ((m : Int) - 1) = ((m - 1 : Nat) : Int) := by rw [wr (by omega) (by omega)]; omega
          have hzy : z < y := by
            have h1 := List.pairwise_iff_getElem.1 hinc (m - 1) m (by omega) hm' (by omega)
            rw [(List.getElem?_eq_some_iff.1 hy).2, (List.getElem?_eq_some_iff.1 hz).2] at h1
            exact h1
          rw [hwm1, hwm]
          refine ⟨⟨by omega, hi4⟩, y, by rw [Int.toNat_natCast]; exact hld, ⟨by omega, by omega⟩, z, by rw [Int.toNat_natCast]; exact hld', ?_⟩
          rw [show ltI z y = true by rw [ltI_eq, decide_eq_true_eq]; exact hzy]
          exact ⟨rfl, ⟨rfl, m + 1, rfl, by omega⟩, by show out.length - ((m + 1 : Nat) : Int).toNat < out.length - (m : Int).toNat; omega⟩
    | false =>
    cases e4 : dd.tmod 7 == 4 with
    | true =>
      have hkn : ¬ n' ≤ k := fun hh => by rw [(hlate hh).1] at e4; exact absurd e4 (by decide)
      refine ⟨mc, by simp (disch := (first | omega | (simp only [Hp.alloc_next, Hp.set_next] <;> omega) | (simp (disch := (first | omega | (simp only [Hp.alloc_next, Hp.set_next] <;> omega) | fail)) only [Hp.get_set_self, Hp.get_set_ne, Hp.get_alloc_self, Hp.get_alloc_ne, Hp.get_alloc_at, Hp.get_set_at, Hp.set_next, Hp.alloc_next, c6]; done) | fail)) only [Hp.st, Hp.ld, Hp.lda, splice, ble_eq', if_true, if_false, ite_true, ite_false, cond_true, cond_false, decide_true, decide_false, List.length_cons, List.length_nil, List.take_zero, List.take_succ_cons, List.nil_append, List.cons_append, List.append_nil, List.drop_succ_cons, List.drop_zero, List.drop_nil, List.getElem?_cons_succ, List.getElem?_cons_zero, Nat.reduceAdd, Nat.reduceLeDiff, Nat.reduceEqDiff, Nat.zero_add, Nat.add_zero, Nat.le_refl, Nat.zero_le, Nat.succ_ne_self, Nat.mul_one, Int.toNat_natCast, Option.some.injEq, Option.isNone_some, Option.isNone_none, V.int.injEq, V.str.injEq, V.bool.injEq, V.ptr.injEq, V.slc.injEq, V.map.injEq, V.agg.injEq, V.tup.injEq, List.cons.injEq, Prod.mk.injEq, onS, true_and, and_true, and_assoc, exists_and_left, exists_eq_left', forall_eq, heq_eq_eq, reduceCtorEq, Bool.not_true, Bool.not_false, eq_self, not_false_eq_true, Nat.left_eq_add, Nat.add_eq_left, Nat.add_left_cancel_iff, Nat.add_right_cancel_iff, Nat.reduceEqDiff, Nat.one_ne_zero, Hp.get_set_self, Hp.get_set_ne, Hp.get_alloc_self, Hp.get_alloc_ne, Hp.get_alloc_at, Hp.get_set_at, Hp.set_next, Hp.alloc_next, Option.some_ne_none, V.tup.injEq, Option.isSome_some, Option.isSome_none, exists_eq_left, exists_eq, Nat.mul_zero, c6], dd, by simp (disch := (first | omega | (simp only [Hp.alloc_next, Hp.set_next] <;> omega) | (simp (disch := (first | omega | (simp only [Hp.alloc_next, Hp.set_next] <;> omega) | fail)) only [Hp.get_set_self, Hp.get_set_ne, Hp.get_alloc_self, Hp.get_alloc_ne, Hp.get_alloc_at, Hp.get_set_at, Hp.set_next, Hp.alloc_next, c6]; done) | fail)) only [Hp.st, Hp.ld, Hp.lda, splice, ble_eq', if_true, if_false, ite_true, ite_false, cond_true, cond_false, decide_true, decide_false, List.length_cons, List.length_nil, List.take_zero, List.take_succ_cons, List.nil_append, List.cons_append, List.append_nil, List.drop_succ_cons, List.drop_zero, List.drop_nil, List.getElem?_cons_succ, List.getElem?_cons_zero, Nat.reduceAdd, Nat.reduceLeDiff, Nat.reduceEqDiff, Nat.zero_add, Nat.add_zero, Nat.le_refl, Nat.zero_le, Nat.succ_ne_self, Nat.mul_one, Int.toNat_natCast, Option.some.injEq, Option.isNone_some, Option.isNone_none, V.int.injEq, V.str.injEq, V.bool.injEq, V.ptr.injEq, V.slc.injEq, V.map.injEq, V.agg.injEq, V.tup.injEq, List.cons.injEq, Prod.mk.injEq, onS, true_and, and_true, and_assoc, exists_and_left, exists_eq_left', forall_eq, heq_eq_eq, reduceCtorEq, Bool.not_true, Bool.not_false, eq_self, not_false_eq_true, Nat.left_eq_add, Nat.add_eq_left, Nat.add_left_cancel_iff, Nat.add_right_cancel_iff, Nat.reduceEqDiff, Nat.one_ne_zero, Hp.get_set_self, Hp.get_set_ne, Hp.get_alloc_self, Hp.get_alloc_ne, Hp.get_alloc_at, Hp.get_set_at, Hp.set_next, Hp.alloc_next, Option.some_ne_none, V.tup.injEq, Option.isSome_some, Option.isSome_none, exists_eq_left, exists_eq, Nat.mul_zero, c6], by decide, ?_⟩
      rw [show (dd.tmod 7 == 3) = false from e3]
      refine (hear_spec J6.j.wf J6.j.r ip mc false T).mono ?_
      rintro _ g7 ⟨x7, f7, G7, F7, rfl, o7, hG7, r7, u7, w7⟩
      have hff : hearF S ip mc false T = hearG (timeF S T) ip mc false := rfl
      have J7 := J6.upd r7 u7 w7
      obtain ⟨hI, hnd, hinc, hin⟩ := I1.hear ok ip mc false
      have hnow := hearG_now (timeF S T) ip mc false
      rw [hff] at o7 J7 ⊢
      generalize hearG (timeF S T) ip mc false = rr at *
      obtain ⟨out, S'⟩ := rr
      dsimp only at o7 J7 hI hnd hinc hin hnow ⊢
      have hWG : mW ∉ G7 := fun hh => by
        rcases (hG7 _ hh).2 with h1 | h1
        · exact J6.wF h1
        · have := J6.lt; omega
      have hol : out.length ≤ 1000000 := by
        have h1 := dels_len out I1.wnd hnd (fun x hx => by rw [hin x hx]; simp)
        have h2 := I1.wlen
        have h3 := I1.hw
        have h4 := ok.waits
        omega
      refine ⟨_, _, _, rfl, fun vs g' => match vs with
        | [.int _ i'] => g' = g7 ∧ ∃ m : Nat, i' = m ∧ m ≤ out.length
        | _ => False, fun vs _ => match vs with
        | [.int _ i'] => out.length - i'.toNat
        | _ => 0, ⟨rfl, rfl, 0, rfl, by omega⟩, ?_⟩
      rintro bs4 i4 g8 ⟨rfl, m, rfl, hm⟩
      cases hi4 : ltI (↑m) (↑out.length) with
      | false =>
        refine ⟨rfl, S', W, F7, out, G7, rfl, o7, hWG, J7, hnd, fun y hy => by rw [hin y hy]; simp, I1.wnd, by have := I1.wlen; have := I1.hw; omega, hI.weak, hnow.trans hT1, ?_⟩
        exact phn hkn hI.weak
      | true =>
        rw [ltI_eq, decide_eq_true_eq] at hi4
        have hm' : m < out.length := by omega
        obtain ⟨y, hy⟩ : ∃ y, out[m]? = some y := ⟨_, List.getElem?_eq_getElem hm'⟩
        obtain ⟨qs, os, rfl, hld⟩ := own_ld o7 hy
        have hwm : IntKind.i64.wrap ((m : Int) + 1) = ((m + 1 : Nat) : Int) := by rw [wr (by omega) (by omega)]; rfl
        have hyW := hin y (List.mem_of_getElem? hy)
        refine ⟨⟨by omega, hi4⟩, y, by rw [Int.toNat_natCast]; exact hld, ip, by rw [J7.get y, hyW]; rfl, ?_⟩
        rw [bne_self_eq_false]
        have stop : IntKind.i64.wrap ((m : Int) + 1) = ((m + 1 : Nat) : Int) := hwm
        cases h0m : ltI 0 (↑m : Int) with
        | false =>
          rw [hwm]
          exact ⟨rfl, ⟨rfl, m + 1, rfl, by omega⟩, by show out.length - ((m + 1 : Nat) : Int).toNat < out.length - (m : Int).toNat; omega⟩
        | true =>
          rw [ltI_eq, decide_eq_true_eq] at h0m
          obtain ⟨z, hz⟩ : ∃ z, out[m - 1]? = some z := ⟨_, List.getElem?_eq_getElem (by omega)⟩
          obtain ⟨qs', os', e', hld'⟩ := own_ld o7 hz
          cases e'
          have hwm1 : IntKind.i64.wrap ((m : Int) - 1) = ((m - 1 : Nat) : Int) := by rw [wr (by omega) (by omega)]; omega
          have hzy : z < y := by
            have h1 := List.pairwise_iff_getElem.1 hinc (m - 1) m (by omega) hm' (by omega)
            rw [(List.getElem?_eq_some_iff.1 hy).2, (List.getElem?_eq_some_iff.1 hz).2] at h1
            exact h1
          rw [hwm1, hwm]
          refine ⟨⟨by omega, hi4⟩, y, by rw [Int.toNat_natCast]; exact hld, ⟨by omega, by omega⟩, z, by rw [Int.toNat_natCast]; exact hld', ?_⟩
          rw [show ltI z y = true by rw [ltI_eq, decide_eq_true_eq]; exact hzy]
          exact ⟨rfl, ⟨rfl, m + 1, rfl, by omega⟩, by show out.length - ((m + 1 : Nat) : Int).toNat < out.length - (m : Int).toNat; omega⟩
    | false =>
      refine (tick_spec J6.j.wf J6.j.r (I0.wsok ok) hesl T).mono ?_
      rintro _ g7 ⟨ks, x1, f1, G1, x2, f2, G2, F7, rfl, hp, hri, o1, o2, hG1, hG2, r7, u7, w7⟩
      have J7 := J6.upd r7 u7 w7
      obtain ⟨out, ht1, ht2, hI, hnd, hin⟩ := Inv.ticks ok ks (c := ⟨timeF S T, [], []⟩) I1 (by show (timeF S T).now ≤ _; rw [hT1]; omega)
      have ht1 : (ticks (timeF S T) ks).lost = out := ht1
      have ht2 : (ticks (timeF S T) ks).S.now = (timeF S T).now := ht2
      have hI : Inv cf (ticks (timeF S T) ks).S (dels W out) k := hI
      have hph : Phase (ticks (timeF S T) ks).S ((k : Int) + 1 - n') := by
        by_cases hkn : n' ≤ k
        · have := I0.phase ok (hTp hkn) (by omega) hp ph
          have e : (k : Int) + 1 - n' = (k : Int) - n' + 1 := by omega
          rw [e]; exact this
        · intro y e he hst
          have := ((hI.weak).ent y e he).ask hst
          omega
      rw [ht1] at o2 ⊢
      have hWG : mW ∉ G2 := fun hh => by have := (hG2 _ hh).1; have := J6.lt; omega
      exact ⟨_, _, _, _, _, _, rfl, rfl, _, W, F7, out, G2, rfl, o2, hWG, J7, hnd, hin, I1.wnd, by have := I1.wlen; have := I1.hw; omega, hI.weak, ht2.trans hT1, hph⟩
  clear c6 q6 J6 J I0 I1 ph hQS hnk hesl
  rintro bs12 x m f g7 ⟨S', W', F', out, G, rfl, own, hWG, J7, hnd, hin, hWnd, hWl, hI, hnow, hph⟩
  have hol : out.length ≤ 1000000 := by
    have h1 := dels_len out (l := W') hWnd hnd hin
    omega
  refine ⟨fun vs g' => match vs with
    | [.int _ i'] => ∃ m : Nat, i' = m ∧ m ≤ out.length ∧ OJ h n h.next o mW (dels W' (out.take m)) S' F' g' ∧ Own 1 x out.length (uRows out) g' G
    | _ => False, fun vs _ => match vs with
    | [.int _ i'] => out.length - i'.toNat
    | _ => 0, ⟨rfl, 0, rfl, by omega, J7, own⟩, ?_⟩
  rintro bs13 i13 g8 ⟨m, rfl, hm, J8, own8⟩
  cases hi8 : ltI (↑m) (↑out.length) with
  | true =>
    rw [ltI_eq, decide_eq_true_eq] at hi8
    have hm' : m < out.length := by omega
    obtain ⟨y, hy⟩ : ∃ y, out[m]? = some y := ⟨_, List.getElem?_eq_getElem hm'⟩
    obtain ⟨qs, os, rfl, hld⟩ := own_ld own8 hy
    have hwm : IntKind.i64.wrap ((m : Int) + 1) = ((m + 1 : Nat) : Int) := by rw [wr (by omega) (by omega)]; rfl
    have hnot : y ∉ out.take m := fun hh => by
      have h1 := List.take_append_drop m out
      rw [← h1] at hnd
      have h2 : y ∈ out.drop m := by
        rw [List.mem_iff_getElem?]
        exact ⟨0, by rw [List.getElem?_drop]; simpa using hy⟩
      exact (List.nodup_append.1 hnd).2.2 y hh y h2 rfl
    have hyW : (mget (dels W' (out.take m)) y).isSome = true := by
      rw [dels_get _ hWnd, if_neg hnot, Option.isSome_iff_ne_none]
      exact hin y (List.mem_of_getElem? hy)
    obtain ⟨g9, hx9, J9, s9⟩ := J8.del y
    refine ⟨⟨by omega, hi8⟩, y, by rw [Int.toNat_natCast]; exact hld, _, _, J8.get2 y, ?_⟩
    rw [hyW]
    refine ⟨⟨by omega, hi8⟩, y, by rw [Int.toNat_natCast]; exact hld, g9, hx9, rfl, ?_, ?_⟩
    · rw [hwm]
      refine ⟨m + 1, rfl, by omega, ?_, (Own.rep _ _ _ _).loc _ _ _ (fun z hz => s9 z (fun e => hWG (e ▸ hz))) own8⟩
      have : out.take (m + 1) = out.take m ++ [y] := by rw [List.take_add_one, hy]; rfl
      rw [this, dels_snoc]; exact J9
    · rw [hwm]; show out.length - ((m + 1 : Nat) : Int).toNat < out.length - (m : Int).toNat; omega
  | false =>
    rw [ltI_eq, decide_eq_false_iff_not] at hi8
    obtain rfl : m = out.length := by omega
    rw [List.take_length] at J8
    have hesl : S'.es.length ≤ 2000 := by have := hI.len; have := ok.most; omega
    refine (waits_spec J8.j.wf J8.j.r (hI.wsok ok) hesl).mono ?_
    rintro _ g9 ⟨x9, f9, rfl, q9⟩
    have J9 := J8.stay q9
    refine ⟨_, _, _, rfl, _, J9.len, ?_⟩
    rw [hI.wlen, bne_self_eq_false]
    obtain ⟨d1, d4, d5⟩ := rd J9.j.sh
    refine ⟨waits, d1, ?_⟩
    have hle := hI.hw
    rw [f1] at hle
    rw [show ltI waits ((held' S'.es : Nat) : Int) = false by rw [ltI_eq, decide_eq_false_iff_not]; omega]
    refine ⟨rfl, ⟨k + 1, S', _, F', rfl, by push_cast; omega, hnow.symm, by rw [hnow]; exact hT2, J9, hI, by push_cast; exact hph⟩, ?_⟩
    show ((n' : Int) + 8 * (asks + 2)).toNat - ((k + 1 : Nat) : Int).toNat < ((n' : Int) + 8 * (asks + 2)).toNat - (k : Int).toNat
    omega
end Go.Vex.NearOnce

namespace Go.Proofs.Ytkpkpnmkoejidaa.nearOnce
open Go.ChangeShapes Go.WideShapes Go.ChangeAt Go.RowKit Go.Vex Go.Vex.NearOnce
open Go.ChangeMaps (open_string shut_string)

theorem own : ownKnob Try.prog.godebug = none := by kernel_rfl

set_option maxRecDepth 100000 in
theorem lifted (os : Os) (started : os.Started) (H : Type) (enc : TypeId × Value → H) :
    ReturnsInHanded {} Try.checked os 4 .any (Rows.nearOnceSpec.pre6 enc Try.prog Try.f4 Rows.nearOnceRow.domain false) (Rows.nearOnceSpec.post enc Try.prog Try.f4 false true false false) := by
  refine returnsInHanded_of_change_sized (C := Try.checked) own started (by kernel_rfl) Try.func4
    (ChangeSpec.witness6 (enc := enc) (C := Try.checked) false ⟨#[], #[.agg #[.int .i64 0, .int .i64 0, .int .i64 0, .int .i64 0, .int .i64 0, .int .i64 0], .slice none 0 0], []⟩ 8 (by kernel_rfl) (by kernel_rfl) (by kernel_rfl) (by kernel_rfl)) ?_
  intro W base args ds gs before hval0 hW hcnd hsz _
  have hval : ∀ (j : Nat) t v, Try.f4.params[j]? = some t → args[j]? = some v → Value.okWide Try.prog W .any base t v := hval0
  have hW' := hW
  obtain ⟨p, q, hA0, hV, rfl, hfz, hnd⟩ := hW
  have hA : DataW.TrodAll enc Try.prog W 0 (fun _ => true) true Try.f4.params.toList args.toList ds p := hA0
  rw [Try.params4] at hA hval hsz
  obtain ⟨v0, vs0, d0, ds0, p0, q0, hargs, rfl, rfl, h0, r0⟩ := trodAll_cons hA
  obtain ⟨v1, vs1, d1, ds1, p1, q1, rfl, rfl, rfl, h1, r1⟩ := trodAll_cons r0
  obtain ⟨rfl, rfl, rfl⟩ := trodAll_nil r1
  obtain rfl : args = #[v0, v1] := by cases args; simp_all
  obtain ⟨rfl, rfl⟩ := trodVars_none hV
  obtain ⟨cs0, rfl, hsz0, hc0⟩ := open_flat Try.underlying23 (ts := [3, 3, 3, 2, 3, 2]) (by kernel_rfl) (by kernel_rfl) (hval 0 23 v0 rfl rfl)
  obtain ⟨x0_0, hx0_0, ok0_0⟩ := hc0 0 3 rfl
  obtain ⟨a0_0, rfl, b0_0⟩ := cell_intB Try.underlying3 ok0_0
  obtain ⟨x0_1, hx0_1, ok0_1⟩ := hc0 1 3 rfl
  obtain ⟨a0_1, rfl, b0_1⟩ := cell_intB Try.underlying3 ok0_1
  obtain ⟨x0_2, hx0_2, ok0_2⟩ := hc0 2 3 rfl
  obtain ⟨a0_2, rfl, b0_2⟩ := cell_intB Try.underlying3 ok0_2
  obtain ⟨x0_3, hx0_3, ok0_3⟩ := hc0 3 2 rfl
  obtain ⟨a0_3, rfl, b0_3⟩ := cell_intB Try.underlying2 ok0_3
  obtain ⟨x0_4, hx0_4, ok0_4⟩ := hc0 4 3 rfl
  obtain ⟨a0_4, rfl, b0_4⟩ := cell_intB Try.underlying3 ok0_4
  obtain ⟨x0_5, hx0_5, ok0_5⟩ := hc0 5 2 rfl
  obtain ⟨a0_5, rfl, b0_5⟩ := cell_intB Try.underlying2 ok0_5
  obtain rfl := arr_of (l := [.int .i64 a0_0, .int .i64 a0_1, .int .i64 a0_2, .int .i64 a0_3, .int .i64 a0_4, .int .i64 a0_5]) hsz0 (fun j x hj => by
    match j, hj with
    | 0, hj => cases hj; exact hx0_0
    | 1, hj => cases hj; exact hx0_1
    | 2, hj => cases hj; exact hx0_2
    | 3, hj => cases hj; exact hx0_3
    | 4, hj => cases hj; exact hx0_4
    | 5, hj => cases hj; exact hx0_5
    | j + 6, hj => simp at hj)
  obtain ⟨ρ1, hp1, b1, n1, f1, rows1, s1, x1, l1, k1, vr1, ro1, sh1, z1⟩ := arg_slice tok (T := Vex.T) (t := 41) (e := 44) (d := 6) (zs := stepZ) rfl rfl rfl rfl rfl (by decide) (hval 1 41 v1 rfl rfl) h1 (fun m hm => hW'.lt m (by simp [hm])) (fun m hm => by simpa using List.all_eq_true.1 hsz m (DataW.weights_mem_each (j := 1) (t := 41) rfl rfl m hm)) (Sat.none W fun _ => ⟨0, 0, 0, 0⟩)
  refine (XCalls.true' s1 (vs := [.agg [.int .i64 a0_0, .int .i64 a0_1, .int .i64 a0_2, .int .i64 a0_3, .int .i64 a0_4, .int .i64 a0_5], .slc b1 n1 f1]) ⟨_, _, rfl, ⟨_, rfl, ⟨_, _, rfl, rfl, ⟨_, _, rfl, rfl, ⟨_, _, rfl, rfl, ⟨_, _, rfl, rfl, ⟨_, _, rfl, rfl, ⟨_, _, rfl, rfl, rfl⟩⟩⟩⟩⟩⟩⟩, ⟨_, _, rfl, vr1, rfl⟩⟩ (law_calls a0_0 b0_0 a0_1 b0_1 a0_2 b0_2 a0_3 b0_3 a0_4 b0_4 a0_5 b0_5 ro1 sh1 z1)).mono fun e W' ⟨he, hb⟩ => ?_
  subst he
  exact ⟨_, rfl, post_true (by kernel_rfl) hW' hb rfl (fun gs hg => by subst hg; rfl) (tb := 4) rfl Try.underlying4 (by decide +kernel)⟩

theorem over : Rows.nearOnceRow.holds Try.pinned (OpenSpec.ofChange Rows.nearOnceSpec) :=
  OpenClaim.holds_of_wide 4 Try.f4 rfl rfl rfl rfl rfl rfl rfl ⟨rfl, rfl, rfl, rfl, rfl⟩ rfl rfl rfl rfl rfl (by kernel_rfl) Try.func4 (by kernel_rfl)
    (of_decide_eq_true (by kernel_rfl)) (by unfold Func.isWrapper; first | (rw [if_pos (by decide +kernel)]; kernel_rfl) | (rw [if_neg (by decide +kernel)]; exact ⟨rfl, rfl⟩))
    (fun os started H enc _ => lifted os started H enc)

theorem proved : Rows.NearOnceSaid :=
  over
#print axioms proved
end Go.Proofs.Ytkpkpnmkoejidaa.nearOnce

