/-
  TableShares of layer 23: however many listen, whatever the place and the hash, the law returns true and leaves the input as it was. No condition.
-/
import Derived.Test.YteknlobdnjcdbaaVexFF
import Derived.Test.YteknlobdnjcdbaaVexGG
import Derived.Test.YteknlobdnjcdbaaTab23
import Derived.Test.YteknlobdnjcdbaaXa23
import Derived.Test.YteknlobdnjcdbaaCa23
import Derived.Test.YteknlobdnjcdbaaCb23
import Derived.Test.YteknlobdnjcdbaaCc23
import Derived.Test.YteknlobdnjcdbaaCd23
import Derived.Test.YteknlobdnjcdbaaXb23
import Derived.Test.YteknlobdnjcdbaaCe23
import Derived.Test.YteknlobdnjcdbaaCf23
import Derived.Test.YteknlobdnjcdbaaXs23
import Derived.Test.YteknlobdnjcdbaaXk23
import Derived.Test.YteknlobdnjcdbaaCsa23
import Derived.Test.YteknlobdnjcdbaaCsb23
import Derived.Test.YteknlobdnjcdbaaCsc23
import Derived.Test.YteknlobdnjcdbaaCsd23
import Derived.Test.YteknlobdnjcdbaaCse23
import Derived.Test.YteknlobdnjcdbaaCg23
import Derived.Test.YteknlobdnjcdbaaCh23
import Derived.Test.YteknlobdnjcdbaaXc23
import Derived.Test.YteknlobdnjcdbaaRows
import Derived.WalkKit
import Derived.ProofKit
import Derived.OpenShut
import Derived.KernelRfl
set_option linter.unusedVariables false
set_option linter.unusedSimpArgs false
namespace Go.Vex.TableShares
open Go.Proofs Go.Vex.Tbl

def ln (n : Nat) : List Int := (List.range n).map fun i : Nat => (i : Int) + 10
def earsK (b : Int) (n : Nat) : List (Int × Ad) := (ln n).map fun s => (s, ⟨0, b⟩)

theorem mem_ln {n : Nat} {s : Int} : s ∈ ln n ↔ 10 ≤ s ∧ s < n + 10 := by
  unfold ln
  rw [List.mem_map]
  constructor
  · rintro ⟨i, hi, rfl⟩; have := List.mem_range.1 hi; omega
  · rintro ⟨h1, h2⟩; exact ⟨(s - 10).toNat, List.mem_range.2 (by omega), by omega⟩

theorem ln_lt (n : Nat) : (ln n).Pairwise (· < ·) := by
  unfold ln; rw [List.pairwise_map]; exact List.pairwise_lt_range.imp fun h => by omega

theorem ln_len (n : Nat) : (ln n).length = n := by simp [ln]
theorem ln_get {n i : Nat} (h : i < n) : (ln n)[i]? = some ((i : Int) + 10) := by unfold ln; rw [List.getElem?_map, List.getElem?_range h]; rfl
theorem ln_succ (n : Nat) : ln (n + 1) = ln n ++ [(n : Int) + 10] := by unfold ln; rw [List.range_succ, List.map_append]; rfl

theorem ears_succ (b : Int) (n : Nat) : earsK b (n + 1) = earsK b n ++ [((n : Int) + 10, ⟨0, b⟩)] := by unfold earsK; rw [ln_succ, List.map_append]; rfl

theorem ears_get (b : Int) : ∀ (n : Nat) (s : Int), mget (earsK b n) s = if 10 ≤ s ∧ s < n + 10 then some ⟨0, b⟩ else none
  | 0, s => by rw [if_neg (by omega)]; rfl
  | n + 1, s => by
    have ih := ears_get b n
    have hn : mget (earsK b n) ((n : Int) + 10) = none := by rw [ih, if_neg (by omega)]
    rw [ears_succ, ← mput_none _ _ _ hn, mget_mput, ih]
    by_cases e : s = (n : Int) + 10
    · rw [if_pos e, if_pos (by push_cast; omega)]
    · rw [if_neg e]
      by_cases h : 10 ≤ s ∧ s < n + 10
      · rw [if_pos h, if_pos (by push_cast; omega)]
      · rw [if_neg h, if_neg (by push_cast; omega)]

/-- n listen at any address, nobody else; no pair is known -/
structure Many (S : TS) (b : Int) (n : Nat) : Prop where
  ms : ∀ p, Tbl.look S p = none
  get : ∀ s, mget S.ears s = if 10 ≤ s ∧ s < n + 10 then some ⟨0, b⟩ else none
  ok : EarsOk S

theorem Many.atL {S : TS} {b : Int} {n : Nat} (m : Many S b n) : AtL S ⟨0, b⟩ (ln n) := ⟨ln_lt n, fun s => by
  rw [mem_ln, m.get]
  by_cases h : 10 ≤ s ∧ s < n + 10
  · rw [if_pos h]; exact ⟨fun _ => rfl, fun _ => h⟩
  · rw [if_neg h]; exact ⟨fun h' => absurd h' h, fun h' => by cases h'⟩⟩

theorem Many.find {S : TS} {b : Int} {n : Nat} (m : Many S b n) (hn : 0 < n ∧ n ≤ 64) {p : Pr} (hp : p.b = b) {hash now k w : Int} (hh : 0 ≤ hash ∧ hash < 4294967296) (f : FindR S p hash now k w) : k = 2 ∧ w = hash * n / 4294967296 + 10 := by
  subst hp
  rcases f with ⟨s, u, h, _⟩ | ⟨s, u, h, _⟩ | ⟨_, l1, l2, h1, h2, h3⟩
  · rw [m.ms] at h; cases h
  · rw [m.ms] at h; cases h
  have e2 : l2 = ln n := h2.uniq m.atL
  have hl : (if l1 = [] then l2 else l1) = ln n := by
    by_cases e : l1 = []
    · rw [if_pos e, e2]
    · rw [if_neg e]
      obtain ⟨s, l, rfl⟩ := List.exists_cons_of_ne_nil e
      have hs := (h1.2 s).1 (by simp)
      rw [m.get] at hs
      split at hs
      · have : (⟨0, p.b⟩ : Ad) = ⟨p.a, p.b⟩ := Option.some.inj hs
        rw [← this] at h1
        exact h1.uniq m.atL
      · cases hs
  rw [hl, ln_len] at h3
  have h0 : 0 ≤ hash * n := Int.mul_nonneg hh.1 (by omega)
  have h5 : hash * n ≤ 4294967295 * n := Int.mul_le_mul_of_nonneg_right (by omega) (by omega)
  rcases h3 with ⟨h3, _⟩ | ⟨rfl, h3⟩
  · have := congrArg List.length h3; rw [ln_len] at this; simp at this; omega
  · rw [ln_get (by omega)] at h3
    have := Option.some.inj h3
    exact ⟨rfl, by omega⟩

/-! ### who was seen -/

def seenN (n : Nat) : Nat → Nat
  | 0 => 0
  | i + 1 => i * n / 64 + 1

theorem seen_end {n : Nat} (hn : 0 < n ∧ n ≤ 30) : seenN n 64 = n := by show 63 * n / 64 + 1 = n; omega

theorem seen_step {n : Nat} (hn : 0 < n ∧ n ≤ 30) {i : Nat} {M : List (Int × Int)} (hM : M.map Prod.fst = ln (seenN n i)) (v : Int) : (mput M ((i * n / 64 : Nat) + 10 : Int) v).map Prod.fst = ln (seenN n (i + 1)) := by
  have h1 : seenN n (i + 1) = i * n / 64 + 1 := rfl
  by_cases h : mget M ((i * n / 64 : Nat) + 10 : Int) = none
  · rw [mput_none _ _ _ h, List.map_append, hM]
    have hno : ¬ ((i * n / 64 : Nat) + 10 : Int) ∈ ln (seenN n i) := fun hh => (mget_mem M _).2 (hM ▸ hh) h
    rw [mem_ln] at hno
    have : seenN n i = i * n / 64 := by
      cases i with
      | zero => simp [seenN]
      | succ i =>
        have e1 : seenN n (i + 1) = i * n / 64 + 1 := rfl
        rw [e1] at hno ⊢
        have e2 : (i + 1) * n = i * n + n := Nat.succ_mul i n
        omega
    rw [this, h1, ln_succ]; rfl
  · rw [mput_some _ _ _ h, hM]
    have hy : ((i * n / 64 : Nat) + 10 : Int) ∈ ln (seenN n i) := by rw [← hM]; exact (mget_mem M _).1 h
    rw [mem_ln] at hy
    have : seenN n i = i * n / 64 + 1 := by
      cases i with
      | zero => simp [seenN] at hy
      | succ i =>
        have e1 : seenN n (i + 1) = i * n / 64 + 1 := rfl
        rw [e1] at hy ⊢
        have e2 : (i + 1) * n = i * n + n := Nat.succ_mul i n
        omega
    rw [this, h1]

theorem mtS : MT T 49 kU (V.int .i64 0) := ⟨(T 49).get rfl, 34, 3, (T 3).get rfl, rfl, rfl, rfl, rfl, KL.int (ti := (T 34).get rfl) rfl rfl⟩
abbrev iV : Int → V := fun n => .int .i64 n

theorem u64w {x : Int} (h : 0 ≤ x ∧ x < 18446744073709551616) : IntKind.u64.wrap x = x := by
  rw [wrap_of]; simp [IntKind.min, IntKind.max, IntKind.signed, IntKind.bits]; omega

def KS (S : TS) (t : Nat) (h0 h : Hp) : Prop := ∃ F, TabR t S h F ∧ (∀ j ∈ F, h0.next ≤ j) ∧ (∀ j, j < h0.next → h.get j = h0.get j) ∧ h.wf ∧ h0.next ≤ h.next

set_option maxRecDepth 20000 in
theorem law_calls (many : Int) (w0 : (Lit.int .u8 many).wf = true) (ip : Int) (wa : IntKind.u32.min ≤ ip ∧ ip ≤ IntKind.u32.max) (port : Int) (wb : IntKind.u16.min ≤ port ∧ port ≤ IntKind.u16.max) (hash : Int) (w2 : (Lit.int .u32 hash).wf = true) (own : Bool) {h : Hp} : XCalls Try.prog 5 [.int .u8 many, .agg [.int .u32 ip, .int .u16 port], .int .u32 hash, .bool own] h fun v _ => v = .bool true := by
  refine XCalls.ofWf fun hw => ?_
  refine XCalls.cps fun K hK => ?_
  have hma := lit_bnd w0
  have hha := lit_bnd w2
  simp [IntKind.min, IntKind.max, IntKind.signed, IntKind.bits] at hma hha
  have hh : 0 ≤ hash ∧ hash < 4294967296 := by omega
  apply x5; unfold X5
  rintro h1 rfl
  have q1 := Quiet.alloc hw (.row [.int .u32 ip, .int .u16 port] 1 false)
  have g1 : (h.alloc (.row [.int .u32 ip, .int .u16 port] 1 false)).get h.next = some (.row [.int .u32 ip, .int .u16 port] 1 false) := Hp.get_alloc_self
  have n1 : (h.alloc (.row [.int .u32 ip, .int .u16 port] 1 false)).next = h.next + 1 := Hp.alloc_next _ _
  generalize h.alloc (.row [.int .u32 ip, .int .u16 port] 1 false) = h1 at *
  refine (new_spec q1.wf).mono ?_
  rintro _ h2 ⟨rfl, F, r2, q2, hF2⟩
  have g2 : h2.get h.next = some (.row [.int .u32 ip, .int .u16 port] 1 false) := by rw [q2.same _ (by omega)]; exact g1
  have hl2 := q2.le
  refine ⟨_, rfl, by omega, port, by simp (disch := (first | omega | (simp only [Hp.alloc_next, Hp.set_next] <;> omega) | (simp (disch := (first | omega | (simp only [Hp.alloc_next, Hp.set_next] <;> omega) | fail)) only [Hp.get_set_self, Hp.get_set_ne, Hp.get_alloc_self, Hp.get_alloc_ne, Hp.get_alloc_at, Hp.get_set_at, Hp.set_next, Hp.alloc_next, g2]; done) | fail)) only [Hp.st, Hp.ld, Hp.lda, splice, ble_eq', if_true, if_false, ite_true, ite_false, cond_true, cond_false, decide_true, decide_false, List.length_cons, List.length_nil, List.take_zero, List.take_succ_cons, List.nil_append, List.cons_append, List.append_nil, List.drop_succ_cons, List.drop_zero, List.drop_nil, List.getElem?_cons_succ, List.getElem?_cons_zero, Nat.reduceAdd, Nat.reduceLeDiff, Nat.reduceEqDiff, Nat.zero_add, Nat.add_zero, Nat.le_refl, Nat.zero_le, Nat.succ_ne_self, Nat.mul_one, Int.toNat_natCast, Option.some.injEq, Option.isNone_some, Option.isNone_none, V.int.injEq, V.str.injEq, V.bool.injEq, V.ptr.injEq, V.slc.injEq, V.map.injEq, V.agg.injEq, V.tup.injEq, List.cons.injEq, Prod.mk.injEq, onS, true_and, and_true, and_assoc, exists_and_left, exists_eq_left', forall_eq, heq_eq_eq, reduceCtorEq, Bool.not_true, Bool.not_false, eq_self, not_false_eq_true, Nat.left_eq_add, Nat.add_eq_left, Nat.add_left_cancel_iff, Nat.add_right_cancel_iff, Nat.reduceEqDiff, Nat.one_ne_zero, Hp.get_set_self, Hp.get_set_ne, Hp.get_alloc_self, Hp.get_alloc_ne, Hp.get_alloc_at, Hp.get_set_at, Hp.set_next, Hp.alloc_next, Option.some_ne_none, V.tup.injEq, Option.isSome_some, Option.isSome_none, exists_eq_left, exists_eq, Nat.mul_zero, g2], ?_⟩
  rintro h3 rfl
  refine ⟨_, Hp.st_of Hp.get_alloc_self (Nat.le_of_ble_eq_true rfl), ?_⟩
  obtain ⟨n, hn, hn1⟩ : ∃ n : Nat, IntKind.i64.wrap (IntKind.i64.wrap (many.tmod 30) + 1) = (n : Int) ∧ 0 < n ∧ n ≤ 30 := by
    rw [Int.tmod_eq_emod_of_nonneg (by omega), wr (x := many % 30) (by omega) (by omega), wr (by omega) (by omega)]
    exact ⟨(many % 30 + 1).toNat, by omega, by omega, by omega⟩
  rw [hn]
  obtain ⟨h4, hh4⟩ : ∃ h4, h4 = (h2.alloc (.row [.int .u32 0, .int .u16 0] 1 false)).set h2.next (.row (splice [.int .u32 0, .int .u16 0] 0 [.int .u32 0, .int .u16 port]) 1 false) := ⟨_, rfl⟩
  rw [← hh4]
  have g4 : h4.get h2.next = some (.row [.int .u32 0, .int .u16 port] 1 false) := by rw [hh4, Hp.get_set_self]; rfl
  have q4 : Quiet h2 h4 := by rw [hh4]; exact ⟨fun j hj => by rw [Hp.get_set_ne (by omega), Hp.get_alloc_ne (by omega)], by simp [Hp.alloc_next], q2.wf.alloc.set (Nat.lt_succ_self _)⟩
  clear hh4
  have hF4 : ∀ j ∈ F, j < h2.next := r2.lt q2.wf
  have ga4 : h4.get h.next = some (.row [.int .u32 ip, .int .u16 port] 1 false) := by rw [q4.same _ (by omega)]; exact g2
  have naF : h.next ∉ F := fun hh => by have := hF2 _ hh; omega
  have nbF : h2.next ∉ F := fun hh => by have := hF4 _ hh; omega
  have sl : ∀ i : Nat, i ≤ 30 → listenF { newS with ears := earsK port i } ((i : Int) + 10) ⟨0, port⟩ = (0, { newS with ears := earsK port (i + 1) }) := fun i hi => by
    have hno : mget (earsK port i) ((i : Int) + 10) = none := by rw [ears_get, if_neg (by omega)]
    rw [listenF, if_neg (by omega), if_neg (by show ¬ (mget (earsK port i) ((i : Int) + 10)).isSome = true; rw [hno]; exact Bool.false_ne_true)]
    show _ = ((0 : Int), ({ newS with ears := earsK port (i + 1) } : TS))
    rw [ears_succ, ← mput_none _ _ _ hno]
  refine ⟨fun vs h' => match vs with
    | [.int _ i] => ∃ i' : Nat, i = i' ∧ i' ≤ n ∧ TabR (h1.next + 1) { newS with ears := earsK port i' } h' F ∧ h'.get h.next = some (.row [.int .u32 ip, .int .u16 port] 1 false) ∧ h'.get h2.next = some (.row [.int .u32 0, .int .u16 port] 1 false) ∧ h'.wf
    | _ => False, fun vs _ => match vs with
    | [.int _ i] => n - i.toNat
    | _ => 0, ⟨by trivial, 0, rfl, Nat.zero_le _, r2.quiet q2.wf q4, ga4, g4, q4.wf⟩, ?_⟩
  rintro bs i h5 ⟨i, rfl, hi, r5, ga5, g5, w5⟩
  cases hc : ltI (↑i) (↑n) with
  | true =>
    rw [ltI_eq, decide_eq_true_eq] at hc
    have hwk : IntKind.i64.wrap ((i : Int) + 1) = ((i + 1 : Nat) : Int) := by rw [wr (by omega) (by omega)]; rfl
    have hsk : IntKind.u64.wrap (IntKind.u64.wrap (i : Int) + 10) = (i : Int) + 10 := by rw [u64w (x := (i : Int)) (by omega), u64w (by omega)]
    refine ⟨0, port, by simp (disch := (first | omega | (simp only [Hp.alloc_next, Hp.set_next] <;> omega) | (simp (disch := (first | omega | (simp only [Hp.alloc_next, Hp.set_next] <;> omega) | fail)) only [Hp.get_set_self, Hp.get_set_ne, Hp.get_alloc_self, Hp.get_alloc_ne, Hp.get_alloc_at, Hp.get_set_at, Hp.set_next, Hp.alloc_next, g5]; done) | fail)) only [Hp.st, Hp.ld, Hp.lda, splice, ble_eq', if_true, if_false, ite_true, ite_false, cond_true, cond_false, decide_true, decide_false, List.length_cons, List.length_nil, List.take_zero, List.take_succ_cons, List.nil_append, List.cons_append, List.append_nil, List.drop_succ_cons, List.drop_zero, List.drop_nil, List.getElem?_cons_succ, List.getElem?_cons_zero, Nat.reduceAdd, Nat.reduceLeDiff, Nat.reduceEqDiff, Nat.zero_add, Nat.add_zero, Nat.le_refl, Nat.zero_le, Nat.succ_ne_self, Nat.mul_one, Int.toNat_natCast, Option.some.injEq, Option.isNone_some, Option.isNone_none, V.int.injEq, V.str.injEq, V.bool.injEq, V.ptr.injEq, V.slc.injEq, V.map.injEq, V.agg.injEq, V.tup.injEq, List.cons.injEq, Prod.mk.injEq, onS, true_and, and_true, and_assoc, exists_and_left, exists_eq_left', forall_eq, heq_eq_eq, reduceCtorEq, Bool.not_true, Bool.not_false, eq_self, not_false_eq_true, Nat.left_eq_add, Nat.add_eq_left, Nat.add_left_cancel_iff, Nat.add_right_cancel_iff, Nat.reduceEqDiff, Nat.one_ne_zero, Hp.get_set_self, Hp.get_set_ne, Hp.get_alloc_self, Hp.get_alloc_ne, Hp.get_alloc_at, Hp.get_set_at, Hp.set_next, Hp.alloc_next, Option.some_ne_none, V.tup.injEq, Option.isSome_some, Option.isSome_none, exists_eq_left, exists_eq, Nat.mul_zero, g5], ?_⟩
    rw [hsk, hwk]
    refine (listen_spec w5 r5 ((i : Int) + 10) ⟨0, port⟩).mono ?_
    rw [sl i (by omega)]
    rintro _ h6 ⟨rfl, r6, u6, w6⟩
    have ha5 := w5.lt ga5
    have hb5 := w5.lt g5
    exact ⟨0, rfl, by trivial, ⟨i + 1, rfl, by omega, r6, by rw [u6.same _ ha5 naF]; exact ga5, by rw [u6.same _ hb5 nbF]; exact g5, w6⟩, by simp only [Int.toNat_natCast]; omega⟩
  | false =>
  rw [ltI_eq, decide_eq_false_iff_not] at hc
  obtain rfl : i = n := by omega
  clear sl
  have many0 : Many { newS with ears := earsK port i } port i := ⟨fun p => rfl, ears_get port i, ⟨by
    show ((earsK port i).map Prod.fst).Nodup
    have : (earsK port i).map Prod.fst = ln i := by unfold earsK; rw [List.map_map]; exact List.map_id' _
    rw [this]; exact (ln_lt i).imp fun h => by omega, by show (earsK port i).length ≤ _; unfold earsK; rw [List.length_map, ln_len]; omega⟩⟩
  generalize hS : ({ newS with ears := earsK port i } : TS) = S at *
  refine ⟨ip, port, by simp (disch := (first | omega | (simp only [Hp.alloc_next, Hp.set_next] <;> omega) | (simp (disch := (first | omega | (simp only [Hp.alloc_next, Hp.set_next] <;> omega) | fail)) only [Hp.get_set_self, Hp.get_set_ne, Hp.get_alloc_self, Hp.get_alloc_ne, Hp.get_alloc_at, Hp.get_set_at, Hp.set_next, Hp.alloc_next, ga5]; done) | fail)) only [Hp.st, Hp.ld, Hp.lda, splice, ble_eq', if_true, if_false, ite_true, ite_false, cond_true, cond_false, decide_true, decide_false, List.length_cons, List.length_nil, List.take_zero, List.take_succ_cons, List.nil_append, List.cons_append, List.append_nil, List.drop_succ_cons, List.drop_zero, List.drop_nil, List.getElem?_cons_succ, List.getElem?_cons_zero, Nat.reduceAdd, Nat.reduceLeDiff, Nat.reduceEqDiff, Nat.zero_add, Nat.add_zero, Nat.le_refl, Nat.zero_le, Nat.succ_ne_self, Nat.mul_one, Int.toNat_natCast, Option.some.injEq, Option.isNone_some, Option.isNone_none, V.int.injEq, V.str.injEq, V.bool.injEq, V.ptr.injEq, V.slc.injEq, V.map.injEq, V.agg.injEq, V.tup.injEq, List.cons.injEq, Prod.mk.injEq, onS, true_and, and_true, and_assoc, exists_and_left, exists_eq_left', forall_eq, heq_eq_eq, reduceCtorEq, Bool.not_true, Bool.not_false, eq_self, not_false_eq_true, Nat.left_eq_add, Nat.add_eq_left, Nat.add_left_cancel_iff, Nat.add_right_cancel_iff, Nat.reduceEqDiff, Nat.one_ne_zero, Hp.get_set_self, Hp.get_set_ne, Hp.get_alloc_self, Hp.get_alloc_ne, Hp.get_alloc_at, Hp.get_set_at, Hp.set_next, Hp.alloc_next, Option.some_ne_none, V.tup.injEq, Option.isSome_some, Option.isSome_none, exists_eq_left, exists_eq, Nat.mul_zero, ga5], ?_⟩
  rintro h6 rfl
  refine ⟨_, Hp.st_of Hp.get_alloc_self (Nat.le_of_ble_eq_true rfl), ?_⟩
  obtain ⟨h7, hh7⟩ : ∃ h7, h7 = (h5.alloc (.row [.int .u32 0, .int .u16 0, .int .u32 0, .int .u16 0] 1 false)).set h5.next (.row (splice [.int .u32 0, .int .u16 0, .int .u32 0, .int .u16 0] 0 [.int .u32 ip, .int .u16 port, .int .u32 7, .int .u16 9]) 1 false) := ⟨_, rfl⟩
  rw [← hh7]
  have g7 : h7.get h5.next = some (.row [.int .u32 ip, .int .u16 port, .int .u32 7, .int .u16 9] 1 false) := by rw [hh7, Hp.get_set_self]; rfl
  have q7 : Quiet h5 h7 := by rw [hh7]; exact ⟨fun j hj => by rw [Hp.get_set_ne (by omega), Hp.get_alloc_ne (by omega)], by simp [Hp.alloc_next], w5.alloc.set (Nat.lt_succ_self _)⟩
  have n7 : h7.next = h5.next + 1 := by rw [hh7]; simp [Hp.alloc_next]
  clear hh7
  have hF5 : ∀ j ∈ F, j < h5.next := r5.lt w5
  have npF : h5.next ∉ F := fun hh => by have := hF5 _ hh; omega
  have ha5 := w5.lt ga5
  have r7 := r5.quiet w5 q7
  have ga7 : h7.get h.next = some (.row [.int .u32 ip, .int .u16 port] 1 false) := by rw [q7.same _ ha5]; exact ga5
  let p : Pr := ⟨ip, port, 7, 9⟩
  have hp : p.b = port := rfl
  refine ⟨ip, port, 7, 9, by simp (disch := (first | omega | (simp only [Hp.alloc_next, Hp.set_next] <;> omega) | (simp (disch := (first | omega | (simp only [Hp.alloc_next, Hp.set_next] <;> omega) | fail)) only [Hp.get_set_self, Hp.get_set_ne, Hp.get_alloc_self, Hp.get_alloc_ne, Hp.get_alloc_at, Hp.get_set_at, Hp.set_next, Hp.alloc_next, g7]; done) | fail)) only [Hp.st, Hp.ld, Hp.lda, splice, ble_eq', if_true, if_false, ite_true, ite_false, cond_true, cond_false, decide_true, decide_false, List.length_cons, List.length_nil, List.take_zero, List.take_succ_cons, List.nil_append, List.cons_append, List.append_nil, List.drop_succ_cons, List.drop_zero, List.drop_nil, List.getElem?_cons_succ, List.getElem?_cons_zero, Nat.reduceAdd, Nat.reduceLeDiff, Nat.reduceEqDiff, Nat.zero_add, Nat.add_zero, Nat.le_refl, Nat.zero_le, Nat.succ_ne_self, Nat.mul_one, Int.toNat_natCast, Option.some.injEq, Option.isNone_some, Option.isNone_none, V.int.injEq, V.str.injEq, V.bool.injEq, V.ptr.injEq, V.slc.injEq, V.map.injEq, V.agg.injEq, V.tup.injEq, List.cons.injEq, Prod.mk.injEq, onS, true_and, and_true, and_assoc, exists_and_left, exists_eq_left', forall_eq, heq_eq_eq, reduceCtorEq, Bool.not_true, Bool.not_false, eq_self, not_false_eq_true, Nat.left_eq_add, Nat.add_eq_left, Nat.add_left_cancel_iff, Nat.add_right_cancel_iff, Nat.reduceEqDiff, Nat.one_ne_zero, Hp.get_set_self, Hp.get_set_ne, Hp.get_alloc_self, Hp.get_alloc_ne, Hp.get_alloc_at, Hp.get_set_at, Hp.set_next, Hp.alloc_next, Option.some_ne_none, V.tup.injEq, Option.isSome_some, Option.isSome_none, exists_eq_left, exists_eq, Nat.mul_zero, g7], ?_⟩
  refine (find_spec q7.wf r7 many0.ok p (now := 0) hh).mono ?_
  rintro _ h8 ⟨q8, k1, w1, rfl, f1⟩
  obtain ⟨rfl, rfl⟩ := many0.find (by omega) hp hh f1
  have g8 : h8.get h5.next = some (.row [.int .u32 ip, .int .u16 port, .int .u32 7, .int .u16 9] 1 false) := by rw [q8.same _ (by omega)]; exact g7
  have r8 := r7.quiet q7.wf q8
  refine ⟨_, _, rfl, ip, port, 7, 9, by simp (disch := (first | omega | (simp only [Hp.alloc_next, Hp.set_next] <;> omega) | (simp (disch := (first | omega | (simp only [Hp.alloc_next, Hp.set_next] <;> omega) | fail)) only [Hp.get_set_self, Hp.get_set_ne, Hp.get_alloc_self, Hp.get_alloc_ne, Hp.get_alloc_at, Hp.get_set_at, Hp.set_next, Hp.alloc_next, g8]; done) | fail)) only [Hp.st, Hp.ld, Hp.lda, splice, ble_eq', if_true, if_false, ite_true, ite_false, cond_true, cond_false, decide_true, decide_false, List.length_cons, List.length_nil, List.take_zero, List.take_succ_cons, List.nil_append, List.cons_append, List.append_nil, List.drop_succ_cons, List.drop_zero, List.drop_nil, List.getElem?_cons_succ, List.getElem?_cons_zero, Nat.reduceAdd, Nat.reduceLeDiff, Nat.reduceEqDiff, Nat.zero_add, Nat.add_zero, Nat.le_refl, Nat.zero_le, Nat.succ_ne_self, Nat.mul_one, Int.toNat_natCast, Option.some.injEq, Option.isNone_some, Option.isNone_none, V.int.injEq, V.str.injEq, V.bool.injEq, V.ptr.injEq, V.slc.injEq, V.map.injEq, V.agg.injEq, V.tup.injEq, List.cons.injEq, Prod.mk.injEq, onS, true_and, and_true, and_assoc, exists_and_left, exists_eq_left', forall_eq, heq_eq_eq, reduceCtorEq, Bool.not_true, Bool.not_false, eq_self, not_false_eq_true, Nat.left_eq_add, Nat.add_eq_left, Nat.add_left_cancel_iff, Nat.add_right_cancel_iff, Nat.reduceEqDiff, Nat.one_ne_zero, Hp.get_set_self, Hp.get_set_ne, Hp.get_alloc_self, Hp.get_alloc_ne, Hp.get_alloc_at, Hp.get_set_at, Hp.set_next, Hp.alloc_next, Option.some_ne_none, V.tup.injEq, Option.isSome_some, Option.isSome_none, exists_eq_left, exists_eq, Nat.mul_zero, g8], ?_⟩
  refine (find_spec q8.wf r8 many0.ok p (now := 50) hh).mono ?_
  rintro _ h9 ⟨q9, k2, w2', rfl, f2⟩
  obtain ⟨rfl, rfl⟩ := many0.find (by omega) hp hh f2
  refine ⟨_, _, rfl, ?_⟩
  have i0 : 0 ≤ hash * i := Int.mul_nonneg hh.1 (by omega)
  have i1 : hash * i ≤ 4294967295 * i := Int.mul_le_mul_of_nonneg_right (by omega) (by omega)
  have e64 : IntKind.u64.wrap (IntKind.u64.wrap (i : Int) + 10) = (i : Int) + 10 := by rw [u64w (x := (i : Int)) (by omega), u64w (by omega)]
  rw [e64]
  have b1 : ltI (hash * i / 4294967296 + 10) 10 = false := by rw [ltI_eq, decide_eq_false_iff_not]; omega
  have b2 : ltI (hash * i / 4294967296 + 10) ((i : Int) + 10) = true := by rw [ltI_eq, decide_eq_true_eq]; omega
  rw [b1, b2]
  simp only [bne_self_eq_false, cond_false, Bool.not_true]
  rintro h10 rfl
  have q10 := Quiet.alloc q9.wf (.map [] 0)
  have g10 : (h9.alloc (.map [] 0)).get h9.next = some (.map [] 0) := Hp.get_alloc_self
  have n10 : (h9.alloc (.map [] 0)).next = h9.next + 1 := Hp.alloc_next _ _
  generalize h9.alloc (.map [] 0) = h10 at *
  have q79 := q8.trans q9
  have q710 := q79.trans q10
  have r10 := r7.quiet q7.wf q710
  have nl := q79.le
  have gp10 : h10.get h5.next = some (.row [.int .u32 ip, .int .u16 port, .int .u32 7, .int .u16 9] 1 false) := by rw [q710.same _ (by omega)]; exact g7
  have ga10 : h10.get h.next = some (.row [.int .u32 ip, .int .u16 port] 1 false) := by rw [q710.same _ (by have := q7.le; omega)]; exact ga7
  refine ⟨fun vs h' => match vs with
    | [.int _ k] => ∃ (k' : Nat) (M : List (Int × Int)) (o : O), k = k' ∧ k' ≤ 64 ∧ TabR (h1.next + 1) S h' F ∧ h'.get h.next = some (.row [.int .u32 ip, .int .u16 port] 1 false) ∧ h'.get h5.next = some (.row [.int .u32 ip, .int .u16 port, .int .u32 7, .int .u16 9] 1 false) ∧ h'.get h9.next = some o ∧ MO kU iV M o ∧ M.map Prod.fst = ln (seenN i k') ∧ h'.wf
    | _ => False, fun vs _ => match vs with
    | [.int _ k] => 64 - k.toNat
    | _ => 0, ⟨by trivial, 0, [], _, rfl, by omega, r10, ga10, gp10, g10, MO.nil _ _, rfl, q10.wf⟩, ?_⟩
  rintro bs2 k h11 ⟨k, M, o, rfl, hk, r11, ga11, gp11, gm11, hM, hMl, w11⟩
  have nmF : h9.next ∉ F := fun hh => by have := hF5 _ hh; have := q7.le; omega
  cases hc2 : ltI (↑k) 64 with
  | true =>
    rw [ltI_eq, decide_eq_true_eq] at hc2
    have hwk : IntKind.i64.wrap ((k : Int) + 1) = ((k + 1 : Nat) : Int) := by rw [wr (by omega) (by omega)]; rfl
    have hsh : IntKind.u32.wrap (IntKind.u32.wrap (k : Int) * 2 ^ min (Int.toNat 26) IntKind.u32.bits) = (k : Int) * 67108864 := by
      have e : ((2 : Int) ^ min (Int.toNat 26) IntKind.u32.bits) = 67108864 := by decide
      rw [e]
      have : IntKind.u32.wrap (k : Int) = k := by rw [wrap_of]; simp [IntKind.min, IntKind.max, IntKind.signed, IntKind.bits]; omega
      rw [this, wrap_of]; simp [IntKind.min, IntKind.max, IntKind.signed, IntKind.bits]; omega
    rw [hsh, hwk]
    refine ⟨ip, port, 7, 9, by simp (disch := (first | omega | (simp only [Hp.alloc_next, Hp.set_next] <;> omega) | (simp (disch := (first | omega | (simp only [Hp.alloc_next, Hp.set_next] <;> omega) | fail)) only [Hp.get_set_self, Hp.get_set_ne, Hp.get_alloc_self, Hp.get_alloc_ne, Hp.get_alloc_at, Hp.get_set_at, Hp.set_next, Hp.alloc_next, gp11]; done) | fail)) only [Hp.st, Hp.ld, Hp.lda, splice, ble_eq', if_true, if_false, ite_true, ite_false, cond_true, cond_false, decide_true, decide_false, List.length_cons, List.length_nil, List.take_zero, List.take_succ_cons, List.nil_append, List.cons_append, List.append_nil, List.drop_succ_cons, List.drop_zero, List.drop_nil, List.getElem?_cons_succ, List.getElem?_cons_zero, Nat.reduceAdd, Nat.reduceLeDiff, Nat.reduceEqDiff, Nat.zero_add, Nat.add_zero, Nat.le_refl, Nat.zero_le, Nat.succ_ne_self, Nat.mul_one, Int.toNat_natCast, Option.some.injEq, Option.isNone_some, Option.isNone_none, V.int.injEq, V.str.injEq, V.bool.injEq, V.ptr.injEq, V.slc.injEq, V.map.injEq, V.agg.injEq, V.tup.injEq, List.cons.injEq, Prod.mk.injEq, onS, true_and, and_true, and_assoc, exists_and_left, exists_eq_left', forall_eq, heq_eq_eq, reduceCtorEq, Bool.not_true, Bool.not_false, eq_self, not_false_eq_true, Nat.left_eq_add, Nat.add_eq_left, Nat.add_left_cancel_iff, Nat.add_right_cancel_iff, Nat.reduceEqDiff, Nat.one_ne_zero, Hp.get_set_self, Hp.get_set_ne, Hp.get_alloc_self, Hp.get_alloc_ne, Hp.get_alloc_at, Hp.get_set_at, Hp.set_next, Hp.alloc_next, Option.some_ne_none, V.tup.injEq, Option.isSome_some, Option.isSome_none, exists_eq_left, exists_eq, Nat.mul_zero, gp11], by omega, ?_⟩
    refine (find_spec w11 r11 many0.ok p (hash := (k : Int) * 67108864) (now := 0) (by omega)).mono ?_
    rintro _ h12 ⟨q12, k3, w3, rfl, f3⟩
    obtain ⟨rfl, rfl⟩ := many0.find (by omega) hp (by omega) f3
    have ew : (k : Int) * 67108864 * i / 4294967296 + 10 = ((k * i / 64 : Nat) : Int) + 10 := by
      have : (k : Int) * 67108864 * i = ((k * i : Nat) : Int) * 67108864 := by push_cast; rw [Int.mul_assoc, Int.mul_comm 67108864, ← Int.mul_assoc]
      rw [this]; omega
    rw [ew]
    have hml := w11.lt gm11
    have gm12 : h12.get h9.next = some o := by rw [q12.same _ hml]; exact gm11
    have hlk := hM.look mtS ((k * i / 64 : Nat) + 10 : Int) h12 h9.next gm12
    rw [lookV_getD iV 0] at hlk
    obtain ⟨o', hM', hput⟩ := hM.put mtS ((k * i / 64 : Nat) + 10 : Int) (IntKind.i64.wrap ((mget M ((k * i / 64 : Nat) + 10 : Int)).getD 0 + 1))
    refine ⟨_, _, rfl, _, hlk, _, hput h12 h9.next gm12, by trivial, ⟨k + 1, _, o', rfl, by omega, (TabR.rep _ _).loc _ _ _ (fun j hj => by rw [Hp.get_set_ne (fun e => nmF (by rw [← e]; exact hj)), q12.same j (r11.lt w11 j hj)]) r11, ?_, ?_, Hp.get_set_self, hM', seen_step hn1 hMl _, q12.wf.set (by have := q12.le; omega)⟩, by simp only [Int.toNat_natCast]; omega⟩
    · rw [Hp.get_set_ne (by have := q7.le; omega), q12.same _ (w11.lt ga11)]; exact ga11
    · rw [Hp.get_set_ne (by omega), q12.same _ (w11.lt gp11)]; exact gp11
  | false =>
  rw [ltI_eq, decide_eq_false_iff_not] at hc2
  obtain rfl : k = 64 := by omega
  have hlen : M.length = i := by
    have := congrArg List.length hMl
    rw [List.length_map, ln_len, seen_end hn1] at this; exact this
  refine ⟨_, hM.len mtS h11 h9.next gm11, ?_⟩
  rw [hlen]
  simp only [bne_self_eq_false, cond_false]
  have fin : ∀ {S' : TS} {h' : Hp}, Many S' port i → TabR (h1.next + 1) S' h' F → h'.wf → h'.get h5.next = some (.row [.int .u32 ip, .int .u16 port, .int .u32 7, .int .u16 9] 1 false) → (∃ S', Many S' port i ∧ TabR (h1.next + 1) S' h' F ∧ h'.wf ∧ h'.get h5.next = some (.row [.int .u32 ip, .int .u16 port, .int .u32 7, .int .u16 9] 1 false)) := fun a b c d => ⟨_, a, b, c, d⟩
  refine ⟨fun vs h' => match vs with
    | [] => ∃ S', Many S' port i ∧ TabR (h1.next + 1) S' h' F ∧ h'.wf ∧ h'.get h5.next = some (.row [.int .u32 ip, .int .u16 port, .int .u32 7, .int .u16 9] 1 false)
    | _ => False, ?_, ?_⟩
  · cases own with
    | false => exact ⟨by trivial, fin many0 r11 w11 gp11⟩
    | true =>
    refine ⟨ip, by simp (disch := (first | omega | (simp only [Hp.alloc_next, Hp.set_next] <;> omega) | (simp (disch := (first | omega | (simp only [Hp.alloc_next, Hp.set_next] <;> omega) | fail)) only [Hp.get_set_self, Hp.get_set_ne, Hp.get_alloc_self, Hp.get_alloc_ne, Hp.get_alloc_at, Hp.get_set_at, Hp.set_next, Hp.alloc_next, ga11]; done) | fail)) only [Hp.st, Hp.ld, Hp.lda, splice, ble_eq', if_true, if_false, ite_true, ite_false, cond_true, cond_false, decide_true, decide_false, List.length_cons, List.length_nil, List.take_zero, List.take_succ_cons, List.nil_append, List.cons_append, List.append_nil, List.drop_succ_cons, List.drop_zero, List.drop_nil, List.getElem?_cons_succ, List.getElem?_cons_zero, Nat.reduceAdd, Nat.reduceLeDiff, Nat.reduceEqDiff, Nat.zero_add, Nat.add_zero, Nat.le_refl, Nat.zero_le, Nat.succ_ne_self, Nat.mul_one, Int.toNat_natCast, Option.some.injEq, Option.isNone_some, Option.isNone_none, V.int.injEq, V.str.injEq, V.bool.injEq, V.ptr.injEq, V.slc.injEq, V.map.injEq, V.agg.injEq, V.tup.injEq, List.cons.injEq, Prod.mk.injEq, onS, true_and, and_true, and_assoc, exists_and_left, exists_eq_left', forall_eq, heq_eq_eq, reduceCtorEq, Bool.not_true, Bool.not_false, eq_self, not_false_eq_true, Nat.left_eq_add, Nat.add_eq_left, Nat.add_left_cancel_iff, Nat.add_right_cancel_iff, Nat.reduceEqDiff, Nat.one_ne_zero, Hp.get_set_self, Hp.get_set_ne, Hp.get_alloc_self, Hp.get_alloc_ne, Hp.get_alloc_at, Hp.get_set_at, Hp.set_next, Hp.alloc_next, Option.some_ne_none, V.tup.injEq, Option.isSome_some, Option.isSome_none, exists_eq_left, exists_eq, Nat.mul_zero, ga11], ?_⟩
    by_cases hip : ip = 0
    · have c0 : (ip != 0) = false := by simp [hip]
      rw [c0]
      exact ⟨by trivial, fin many0 r11 w11 gp11⟩
    have c0 : (ip != 0) = true := by simp [hip]
    rw [c0]
    refine ⟨ip, port, by simp (disch := (first | omega | (simp only [Hp.alloc_next, Hp.set_next] <;> omega) | (simp (disch := (first | omega | (simp only [Hp.alloc_next, Hp.set_next] <;> omega) | fail)) only [Hp.get_set_self, Hp.get_set_ne, Hp.get_alloc_self, Hp.get_alloc_ne, Hp.get_alloc_at, Hp.get_set_at, Hp.set_next, Hp.alloc_next, ga11]; done) | fail)) only [Hp.st, Hp.ld, Hp.lda, splice, ble_eq', if_true, if_false, ite_true, ite_false, cond_true, cond_false, decide_true, decide_false, List.length_cons, List.length_nil, List.take_zero, List.take_succ_cons, List.nil_append, List.cons_append, List.append_nil, List.drop_succ_cons, List.drop_zero, List.drop_nil, List.getElem?_cons_succ, List.getElem?_cons_zero, Nat.reduceAdd, Nat.reduceLeDiff, Nat.reduceEqDiff, Nat.zero_add, Nat.add_zero, Nat.le_refl, Nat.zero_le, Nat.succ_ne_self, Nat.mul_one, Int.toNat_natCast, Option.some.injEq, Option.isNone_some, Option.isNone_none, V.int.injEq, V.str.injEq, V.bool.injEq, V.ptr.injEq, V.slc.injEq, V.map.injEq, V.agg.injEq, V.tup.injEq, List.cons.injEq, Prod.mk.injEq, onS, true_and, and_true, and_assoc, exists_and_left, exists_eq_left', forall_eq, heq_eq_eq, reduceCtorEq, Bool.not_true, Bool.not_false, eq_self, not_false_eq_true, Nat.left_eq_add, Nat.add_eq_left, Nat.add_left_cancel_iff, Nat.add_right_cancel_iff, Nat.reduceEqDiff, Nat.one_ne_zero, Hp.get_set_self, Hp.get_set_ne, Hp.get_alloc_self, Hp.get_alloc_ne, Hp.get_alloc_at, Hp.get_set_at, Hp.set_next, Hp.alloc_next, Option.some_ne_none, V.tup.injEq, Option.isSome_some, Option.isSome_none, exists_eq_left, exists_eq, Nat.mul_zero, ga11], ?_⟩
    refine (listen_spec w11 r11 5 ⟨ip, port⟩).mono ?_
    have hno : mget S.ears 5 = none := by rw [many0.get, if_neg (by omega)]
    have hlf : listenF S 5 ⟨ip, port⟩ = (0, { S with ears := mput S.ears 5 ⟨ip, port⟩ }) := by rw [listenF, if_neg (by decide), if_neg (by rw [hno]; exact Bool.false_ne_true)]
    rw [hlf]
    rintro _ h13 ⟨rfl, r13, u13, w13⟩
    have gp13 : h13.get h5.next = some (.row [.int .u32 ip, .int .u16 port, .int .u32 7, .int .u16 9] 1 false) := by rw [u13.same _ (w11.lt gp11) npF]; exact gp11
    have hget : ∀ s, mget (mput S.ears 5 ⟨ip, port⟩) s = if s = 5 then some ⟨ip, port⟩ else mget S.ears s := fun s => mget_mput _ _ _ _
    have ok13 : EarsOk { S with ears := mput S.ears 5 ⟨ip, port⟩ } := ⟨by
      show ((mput S.ears 5 ⟨ip, port⟩).map Prod.fst).Nodup
      rw [mput_none _ _ _ hno, List.map_append, List.nodup_append]
      refine ⟨many0.ok.nd, by simp, fun x hx y hy => ?_⟩
      simp only [List.map_cons, List.map_nil, List.mem_singleton] at hy
      subst hy
      exact fun e => (mget_mem S.ears x).2 hx (e ▸ hno), by
      show (mput S.ears 5 ⟨ip, port⟩).length ≤ _
      rw [mput_none _ _ _ hno, List.length_append]
      rw [← hS]; show (earsK port i).length + 1 ≤ _; unfold earsK; rw [List.length_map, ln_len]; omega⟩
    refine ⟨0, rfl, ip, port, 7, 9, by simp (disch := (first | omega | (simp only [Hp.alloc_next, Hp.set_next] <;> omega) | (simp (disch := (first | omega | (simp only [Hp.alloc_next, Hp.set_next] <;> omega) | fail)) only [Hp.get_set_self, Hp.get_set_ne, Hp.get_alloc_self, Hp.get_alloc_ne, Hp.get_alloc_at, Hp.get_set_at, Hp.set_next, Hp.alloc_next, gp13]; done) | fail)) only [Hp.st, Hp.ld, Hp.lda, splice, ble_eq', if_true, if_false, ite_true, ite_false, cond_true, cond_false, decide_true, decide_false, List.length_cons, List.length_nil, List.take_zero, List.take_succ_cons, List.nil_append, List.cons_append, List.append_nil, List.drop_succ_cons, List.drop_zero, List.drop_nil, List.getElem?_cons_succ, List.getElem?_cons_zero, Nat.reduceAdd, Nat.reduceLeDiff, Nat.reduceEqDiff, Nat.zero_add, Nat.add_zero, Nat.le_refl, Nat.zero_le, Nat.succ_ne_self, Nat.mul_one, Int.toNat_natCast, Option.some.injEq, Option.isNone_some, Option.isNone_none, V.int.injEq, V.str.injEq, V.bool.injEq, V.ptr.injEq, V.slc.injEq, V.map.injEq, V.agg.injEq, V.tup.injEq, List.cons.injEq, Prod.mk.injEq, onS, true_and, and_true, and_assoc, exists_and_left, exists_eq_left', forall_eq, heq_eq_eq, reduceCtorEq, Bool.not_true, Bool.not_false, eq_self, not_false_eq_true, Nat.left_eq_add, Nat.add_eq_left, Nat.add_left_cancel_iff, Nat.add_right_cancel_iff, Nat.reduceEqDiff, Nat.one_ne_zero, Hp.get_set_self, Hp.get_set_ne, Hp.get_alloc_self, Hp.get_alloc_ne, Hp.get_alloc_at, Hp.get_set_at, Hp.set_next, Hp.alloc_next, Option.some_ne_none, V.tup.injEq, Option.isSome_some, Option.isSome_none, exists_eq_left, exists_eq, Nat.mul_zero, gp13], ?_⟩
    refine (find_spec w13 r13 ok13 p (now := 0) hh).mono ?_
    rintro _ h14 ⟨q14, k4, w4, rfl, f4⟩
    have h5at : AtL { S with ears := mput S.ears 5 ⟨ip, port⟩ } ⟨ip, port⟩ [5] := ⟨by simp, fun s => by
      show s ∈ [5] ↔ mget (mput S.ears 5 ⟨ip, port⟩) s = some ⟨ip, port⟩
      rw [hget, List.mem_singleton]
      by_cases e : s = 5
      · rw [if_pos e]; exact ⟨fun _ => rfl, fun _ => e⟩
      · rw [if_neg e, many0.get]
        refine ⟨fun h => absurd h e, fun h => ?_⟩
        split at h
        · have := congrArg Ad.ip (Option.some.inj h); exact absurd this.symm hip
        · cases h⟩
    have hkw : k4 = 2 ∧ w4 = 5 := by
      rcases f4 with ⟨s, u, h, _⟩ | ⟨s, u, h, _⟩ | ⟨_, l1, l2, a1, a2, a3⟩
      · have := many0.ms p; exact absurd (this.symm.trans h) (by simp)
      · have := many0.ms p; exact absurd (this.symm.trans h) (by simp)
      have e1 : l1 = [5] := a1.uniq h5at
      rw [if_neg (by rw [e1]; simp), e1] at a3
      rcases a3 with ⟨a3, _⟩ | ⟨rfl, a3⟩
      · cases a3
      · have : (hash * (([5] : List Int).length : Int) / 4294967296).toNat = 0 := by simp; omega
        rw [this] at a3
        exact ⟨rfl, (Option.some.inj a3).symm⟩
    obtain ⟨rfl, rfl⟩ := hkw
    refine ⟨_, _, rfl, ?_⟩
    simp only [bne_self_eq_false, cond_false]
    rintro h15 rfl
    have q15 := Quiet.alloc q14.wf (.row [.int .u64 5] 1 false)
    have g15 : (h14.alloc (.row [.int .u64 5] 1 false)).get h14.next = some (.row [.int .u64 5] 1 false) := Hp.get_alloc_self
    generalize h14.alloc (.row [.int .u64 5] 1 false) = h15 at *
    have qq := q14.trans q15
    have r15 := r13.quiet w13 qq
    have hF13 := r13.lt w13
    refine (deaf_spec qq.wf r15 (x := some (h14.next, 0)) (f := true) (l := [5]) (G := [h14.next]) ⟨rfl, by simp, rfl, [], rfl, g15⟩ (fun j hj hh => by rw [List.mem_singleton] at hj; subst hj; have := hF13 _ hh; have := q14.le; omega) (by simp)).mono ?_
    have hdf : deafF { S with ears := mput S.ears 5 ⟨ip, port⟩ } [5] = (1, { S with ears := mdel (mput S.ears 5 ⟨ip, port⟩) 5 }) := by
      show deaf1 (0, { S with ears := mput S.ears 5 ⟨ip, port⟩ }) 5 = _
      rw [deaf1, if_pos (by show (mget (mput S.ears 5 ⟨ip, port⟩) 5).isSome = true; rw [hget, if_pos rfl]; rfl)]
    rw [hdf]
    rintro _ h16 ⟨rfl, r16, u16, w16⟩
    refine ⟨_, rfl, ?_⟩
    have c1 : (((1 : Nat) : Int) != 1) = false := rfl
    rw [c1]
    refine ⟨by trivial, fin (S' := { S with ears := mdel (mput S.ears 5 ⟨ip, port⟩) 5 }) ⟨fun p => many0.ms p, fun s => ?_, ⟨?_, ?_⟩⟩ r16 w16 ?_⟩
    · show mget (mdel (mput S.ears 5 ⟨ip, port⟩) 5) s = _
      by_cases e : s = 5
      · subst e
        rw [mget_self _ _ ok13.nd, if_neg (by omega)]
      · rw [mget_mdel _ _ _ e, hget, if_neg e, many0.get]
    · exact ok13.nd.sublist ((mdel_sub _ _).map _)
    · exact Nat.le_trans (mdel_sub _ _).length_le ok13.len
    · rw [u16.same _ (by have := w13.lt gp13; have := qq.le; omega) npF, qq.same _ (w13.lt gp13)]; exact gp13
  rintro bs3 h17 ⟨S', hm', r17, w17, gp17⟩
  refine ⟨ip, port, 7, 9, by simp (disch := (first | omega | (simp only [Hp.alloc_next, Hp.set_next] <;> omega) | (simp (disch := (first | omega | (simp only [Hp.alloc_next, Hp.set_next] <;> omega) | fail)) only [Hp.get_set_self, Hp.get_set_ne, Hp.get_alloc_self, Hp.get_alloc_ne, Hp.get_alloc_at, Hp.get_set_at, Hp.set_next, Hp.alloc_next, gp17]; done) | fail)) only [Hp.st, Hp.ld, Hp.lda, splice, ble_eq', if_true, if_false, ite_true, ite_false, cond_true, cond_false, decide_true, decide_false, List.length_cons, List.length_nil, List.take_zero, List.take_succ_cons, List.nil_append, List.cons_append, List.append_nil, List.drop_succ_cons, List.drop_zero, List.drop_nil, List.getElem?_cons_succ, List.getElem?_cons_zero, Nat.reduceAdd, Nat.reduceLeDiff, Nat.reduceEqDiff, Nat.zero_add, Nat.add_zero, Nat.le_refl, Nat.zero_le, Nat.succ_ne_self, Nat.mul_one, Int.toNat_natCast, Option.some.injEq, Option.isNone_some, Option.isNone_none, V.int.injEq, V.str.injEq, V.bool.injEq, V.ptr.injEq, V.slc.injEq, V.map.injEq, V.agg.injEq, V.tup.injEq, List.cons.injEq, Prod.mk.injEq, onS, true_and, and_true, and_assoc, exists_and_left, exists_eq_left', forall_eq, heq_eq_eq, reduceCtorEq, Bool.not_true, Bool.not_false, eq_self, not_false_eq_true, Nat.left_eq_add, Nat.add_eq_left, Nat.add_left_cancel_iff, Nat.add_right_cancel_iff, Nat.reduceEqDiff, Nat.one_ne_zero, Hp.get_set_self, Hp.get_set_ne, Hp.get_alloc_self, Hp.get_alloc_ne, Hp.get_alloc_at, Hp.get_set_at, Hp.set_next, Hp.alloc_next, Option.some_ne_none, V.tup.injEq, Option.isSome_some, Option.isSome_none, exists_eq_left, exists_eq, Nat.mul_zero, gp17], ?_⟩
  refine (find_spec w17 r17 hm'.ok p (now := 0) hh).mono ?_
  rintro _ h18 ⟨q18, k5, w5', rfl, f5⟩
  obtain ⟨rfl, rfl⟩ := hm'.find (by omega) hp hh f5
  refine ⟨_, _, rfl, ?_⟩
  simp only [beq_self_eq_true, cond_true]
  exact works_spec fun h' => ⟨_, rfl, hK _ _ rfl⟩
end Go.Vex.TableShares

namespace Go.Proofs.Yteknlobdnjcdbaa.tableShares
open Go.ChangeShapes Go.WideShapes Go.ChangeAt Go.RowKit Go.Vex Go.Vex.TableShares
open Go.ChangeMaps (open_string shut_string)

theorem own : ownKnob Try.prog.godebug = none := by kernel_rfl

set_option maxRecDepth 100000 in
theorem lifted (os : Os) (started : os.Started) (H : Type) (enc : TypeId × Value → H) :
    ReturnsInHanded {} Try.checked os 5 .any (Rows.tableSharesSpec.pre6 enc Try.prog Try.f5 Rows.tableSharesRow.domain false) (Rows.tableSharesSpec.post enc Try.prog Try.f5 false true false false) := by
  refine returnsInHanded_of_change_sized (C := Try.checked) own started (by kernel_rfl) Try.func5
    (ChangeSpec.witness6 (enc := enc) (C := Try.checked) false ⟨#[], #[.int .u8 0, .agg #[.int .u32 0, .int .u16 0], .int .u32 0, .bool false], []⟩ 8 (by kernel_rfl) (by kernel_rfl) (by kernel_rfl) (by kernel_rfl)) ?_
  intro W base args ds gs before hval0 hW hcnd hsz _
  have hval : ∀ (j : Nat) t v, Try.f5.params[j]? = some t → args[j]? = some v → Value.okWide Try.prog W .any base t v := hval0
  have hW' := hW
  obtain ⟨p, q, hA0, hV, rfl, hfz, hnd⟩ := hW
  have hA : DataW.TrodAll enc Try.prog W 0 (fun _ => true) true Try.f5.params.toList args.toList ds p := hA0
  rw [Try.params5] at hA hval hsz
  obtain ⟨v0, vs0, d0, ds0, p0, q0, hargs, rfl, rfl, h0, r0⟩ := trodAll_cons hA
  obtain ⟨v1, vs1, d1, ds1, p1, q1, rfl, rfl, rfl, h1, r1⟩ := trodAll_cons r0
  obtain ⟨v2, vs2, d2, ds2, p2, q2, rfl, rfl, rfl, h2, r2⟩ := trodAll_cons r1
  obtain ⟨v3, vs3, d3, ds3, p3, q3, rfl, rfl, rfl, h3, r3⟩ := trodAll_cons r2
  obtain ⟨rfl, rfl, rfl⟩ := trodAll_nil r3
  obtain rfl : args = #[v0, v1, v2, v3] := by cases args; simp_all
  obtain ⟨rfl, rfl⟩ := trodVars_none hV
  obtain ⟨a0, rfl, rfl, rfl, w0⟩ := open_int Try.underlying5 (hval 0 5 v0 rfl rfl) h0
  obtain ⟨cs1, rfl, hsz1, hc1⟩ := open_flat Try.underlying31 (ts := [28, 29]) (by kernel_rfl) (by kernel_rfl) (hval 1 31 v1 rfl rfl)
  obtain ⟨x1_0, hx1_0, ok1_0⟩ := hc1 0 28 rfl
  obtain ⟨a1_0, rfl, b1_0⟩ := cell_intB Try.underlying28 ok1_0
  obtain ⟨x1_1, hx1_1, ok1_1⟩ := hc1 1 29 rfl
  obtain ⟨a1_1, rfl, b1_1⟩ := cell_intB Try.underlying29 ok1_1
  obtain rfl := arr_of (l := [.int .u32 a1_0, .int .u16 a1_1]) hsz1 (fun j x hj => by
    match j, hj with
    | 0, hj => cases hj; exact hx1_0
    | 1, hj => cases hj; exact hx1_1
    | j + 2, hj => simp at hj)
  obtain ⟨a2, rfl, rfl, rfl, w2⟩ := open_int Try.underlying28 (hval 2 28 v2 rfl rfl) h2
  obtain ⟨a3, rfl, rfl, rfl⟩ := open_bool Try.underlying4 (hval 3 4 v3 rfl rfl) h3
  refine (XCalls.true' (Sat.none W fun _ => ⟨0, 0, 0, 0⟩) (vs := [.int .u8 a0, .agg [.int .u32 a1_0, .int .u16 a1_1], .int .u32 a2, .bool a3]) ⟨_, _, rfl, rfl, ⟨_, _, rfl, ⟨_, rfl, ⟨_, _, rfl, rfl, ⟨_, _, rfl, rfl, rfl⟩⟩⟩, ⟨_, _, rfl, rfl, ⟨_, _, rfl, rfl, rfl⟩⟩⟩⟩ (law_calls a0 w0 a1_0 b1_0 a1_1 b1_1 a2 w2 a3)).mono fun e W' ⟨he, hb⟩ => ?_
  subst he
  exact ⟨_, rfl, post_true (by kernel_rfl) hW' hb rfl (fun gs hg => by subst hg; rfl) (tb := 4) rfl Try.underlying4 (by decide +kernel)⟩

theorem over : Rows.tableSharesRow.holds Try.pinned (OpenSpec.ofChange Rows.tableSharesSpec) :=
  OpenClaim.holds_of_wide 5 Try.f5 rfl rfl rfl rfl rfl rfl rfl ⟨rfl, rfl, rfl, rfl, rfl⟩ rfl rfl rfl rfl rfl (by kernel_rfl) Try.func5 (by kernel_rfl)
    (of_decide_eq_true (by kernel_rfl)) (by unfold Func.isWrapper; first | (rw [if_pos (by decide +kernel)]; kernel_rfl) | (rw [if_neg (by decide +kernel)]; exact ⟨rfl, rfl⟩))
    (fun os started H enc _ => lifted os started H enc)

theorem proved : Rows.TableSharesSaid :=
  over
#print axioms proved
end Go.Proofs.Yteknlobdnjcdbaa.tableShares

