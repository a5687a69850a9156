/-
  PortsShare of layer 22: however many share, at which address, at which port, the law returns true and leaves the input as it was. No condition.
-/
import Derived.Test.YtehihinmgejpaaaVexDD
import Derived.Test.YtehihinmgejpaaaTab22
import Derived.Test.YtehihinmgejpaaaXp22
import Derived.Test.YtehihinmgejpaaaXpn22
import Derived.Test.YtehihinmgejpaaaXls22
import Derived.Test.YtehihinmgejpaaaCpa22
import Derived.Test.YtehihinmgejpaaaCpb22
import Derived.Test.YtehihinmgejpaaaCpc22
import Derived.Test.YtehihinmgejpaaaCpd22
import Derived.Test.YtehihinmgejpaaaXs22
import Derived.Test.YtehihinmgejpaaaCsa22
import Derived.Test.YtehihinmgejpaaaCsb22
import Derived.Test.YtehihinmgejpaaaCsc22
import Derived.Test.YtehihinmgejpaaaCsd22
import Derived.Test.YtehihinmgejpaaaCpe22
import Derived.Test.YtehihinmgejpaaaCpl22
import Derived.Test.YtehihinmgejpaaaRows
import Derived.WalkKit
import Derived.ProofKit
import Derived.OpenShut
import Derived.KernelRfl
set_option linter.unusedVariables false
set_option linter.unusedSimpArgs false
namespace Go.Vex.PortsShare
open Go.Proofs Go.Vex.Ports

def shL (b : Bd) (n : Nat) : List (Int × Bd) := (List.range n).map fun k : Nat => (100 - (k : Int), b)

theorem shL_succ (b : Bd) (n : Nat) : shL b (n + 1) = shL b n ++ [(100 - (n : Int), b)] := by simp [shL, List.range_succ]
theorem shL_len (b : Bd) (n : Nat) : (shL b n).length = n := by simp [shL]

theorem mem_shL {b : Bd} {n : Nat} {x : Int × Bd} (h : x ∈ shL b n) : ∃ k : Nat, k < n ∧ x = (100 - (k : Int), b) := by
  obtain ⟨k, hk, rfl⟩ := List.mem_map.1 h
  exact ⟨k, List.mem_range.1 hk, rfl⟩

theorem shL_get {b : Bd} {n : Nat} {s : Int} (h : s ≤ 100 - (n : Int)) : mget (shL b n) s = none := by
  unfold mget
  rw [Option.map_eq_none_iff, List.find?_eq_none]
  intro x hx
  obtain ⟨k, hk, rfl⟩ := mem_shL hx
  intro e
  have e := of_decide_eq_true e
  simp only at e
  omega

theorem may_of {L : List (Int × Bd)} {s : Int} {b : Bd} (hk : b.kind = 2) (hp : b.port ≠ 0) (hg : mget L s = none) (hl : L.length < 1024) : mayCode L s b true = 0 := by
  unfold mayCode
  rw [if_neg (by simp [hk, hp]), if_neg (by simp [hg]), if_neg (by omega)]

theorem bind_0 {L : List (Int × Bd)} {s : Int} {b : Bd} (h : mayCode L s b true = 0) (hc : (L.any fun x => clashB b x.2) = false) : bindCode L s b = 0 := by
  unfold bindCode; rw [if_neg (by omega), hc]; rfl

theorem bind_220 {L : List (Int × Bd)} {s : Int} {b : Bd} (h : mayCode L s b true = 0) (hc : (L.any fun x => clashB b x.2) = true) : bindCode L s b = 220 := by
  unfold bindCode; rw [if_neg (by omega), hc]; rfl

theorem keys_shL (b : Bd) (n : Nat) : (shL b n).map Prod.fst = (List.range n).map fun k : Nat => 100 - (k : Int) := by simp [shL]

theorem nodup_shL (b : Bd) (n : Nat) : ((shL b n).map Prod.fst).Nodup := by
  rw [keys_shL]
  exact List.Pairwise.map _ (fun a b h => by simp; omega) (List.nodup_range (n := n))

theorem filter_all {α : Type} {p : α → Bool} {l : List α} (h : ∀ x ∈ l, p x = true) : l.filter p = l := List.filter_eq_self.2 h

theorem who_shL {ip port : Int} {n : Nat} (hn : 0 < n) : whoL (shL ⟨2, ip, port, true⟩ n) 2 ip port = (shL ⟨2, ip, port, true⟩ n).map Prod.fst := by
  have e : atL (shL ⟨2, ip, port, true⟩ n) 2 ip port = (shL ⟨2, ip, port, true⟩ n).map Prod.fst := by
    unfold atL
    rw [filter_all]
    intro x hx
    obtain ⟨k, hk, rfl⟩ := mem_shL hx
    simp [atB]
  unfold whoL
  rw [e, if_neg]
  intro h
  have := congrArg List.length h
  simp [shL] at this
  omega

theorem u64w {x : Int} (h0 : 0 ≤ x) (h1 : x < 18446744073709551616) : IntKind.u64.wrap x = x := wrap_of (by simp [IntKind.min, IntKind.max, IntKind.signed, IntKind.bits]; omega)

theorem flat1 (l : List Int) : (l.map fun s => [V.int .u64 s]).flatten = l.map (V.int .u64) := by
  induction l with
  | nil => rfl
  | cons a l ih => simp [ih]

theorem own_rd {a : Option (Nat × Nat)} {n : Nat} {l : List Int} {h : Hp} {G : List Nat} (o : Own 1 a n (l.map fun s => [V.int .u64 s]) h G) : Rd a n l h := by
  obtain ⟨h1, h2, h3⟩ := o
  refine ⟨by simpa using h1, fun hn => ?_⟩
  cases a with
  | none => simp at h3; simp [h3.1] at h1; omega
  | some p =>
    obtain ⟨q, o⟩ := p
    obtain ⟨rfl, front, hf, hg⟩ := h3
    refine ⟨q, o, _, _, _, rfl, hg, fun k hk => ?_⟩
    have : (l.map fun s => [V.int .u64 s]).flatten = l.map (V.int .u64) := flat1 l
    rw [List.getElem?_append_right (by omega), this, List.getElem?_map, hf, Nat.add_sub_cancel_left]

theorem law_calls (many : Int) (w0 : (Lit.int .u8 many).wf = true) (ip : Int) (w1 : (Lit.int .u32 ip).wf = true) (port : Int) (w2 : (Lit.int .u16 port).wf = true) {h : Hp} :
    XCalls Try.prog 7 [.int .u8 many, .int .u32 ip, .int .u16 port] h fun v _ => v = .bool true := by
  refine XCalls.ofWf fun hw => ?_
  refine XCalls.cps fun K hK => ?_
  have KT : ∀ h', K (.bool true) h' := fun h' => hK _ _ rfl
  have hm := lit_bnd w0
  simp [IntKind.min, IntKind.max, IntKind.signed, IntKind.bits] at hm
  apply x7; unfold X7
  by_cases hp0 : port = 0
  · rw [hp0]
    exact works_spec fun _ => ⟨_, rfl, KT _⟩
  have : (port == 0) = false := by simpa using hp0
  rw [this]
  simp only [cond_false]
  obtain ⟨N, hN, hN1, hN2⟩ : ∃ N : Nat, IntKind.i64.wrap (IntKind.i64.wrap (many.tmod 20) + 1) = (N : Int) ∧ 1 ≤ N ∧ N ≤ 20 := by
    have t1 : many.tmod 20 = many % 20 := Int.tmod_eq_emod_of_nonneg (by omega)
    refine ⟨(many % 20).toNat + 1, ?_, by omega, by omega⟩
    rw [t1, wr (x := many % 20) (by omega) (by omega), wr (by omega) (by omega)]; omega
  rw [hN]
  refine (new_spec hw).mono ?_
  rintro _ g1 ⟨rfl, r1, q1⟩
  refine ⟨_, rfl, by decide, ?_⟩
  refine (tcp_spec q1.wf).mono ?_
  rintro _ g2 ⟨rfl, q2⟩
  refine ⟨_, _, _, _, rfl, ?_⟩
  rintro g3 rfl
  refine ⟨_, Hp.st_of Hp.get_alloc_self (Nat.le_of_ble_eq_true rfl), _, Hp.st_of Hp.get_set_self (Nat.le_of_ble_eq_true rfl), ?_⟩
  have hr1 := (PortsR.rep _ _).lt q1.wf r1 (j := h.next + 1) (by simp)
  obtain ⟨g4, hg4⟩ : ∃ g4, g4 = ((g2.alloc (.row [.int .u8 0, .int .u32 0, .int .u16 0, .bool false] 1 false)).set g2.next (.row (splice [.int .u8 0, .int .u32 0, .int .u16 0, .bool false] 0 [.int .u8 2, .int .u32 ip, .int .u16 port, .bool false]) 1 false)).set g2.next (.row (splice (splice [.int .u8 0, .int .u32 0, .int .u16 0, .bool false] 0 [.int .u8 2, .int .u32 ip, .int .u16 port, .bool false]) 3 [.bool true]) 1 false) := ⟨_, rfl⟩
  have q24 : Quiet g2 g4 := by rw [hg4]; exact ⟨fun j hj => by simp (disch := (first | omega | (simp only [Hp.alloc_next, Hp.set_next] <;> omega) | (simp (disch := (first | omega | (simp only [Hp.alloc_next, Hp.set_next] <;> omega) | fail)) only [Hp.get_set_self, Hp.get_set_ne, Hp.get_alloc_self, Hp.get_alloc_ne, Hp.get_alloc_at, Hp.get_set_at, Hp.set_next, Hp.alloc_next]; done) | fail)) only [Hp.st, Hp.ld, Hp.lda, splice, ble_eq', if_true, if_false, ite_true, ite_false, cond_true, cond_false, decide_true, decide_false, List.length_cons, List.length_nil, List.take_zero, List.take_succ_cons, List.nil_append, List.cons_append, List.append_nil, List.drop_succ_cons, List.drop_zero, List.drop_nil, List.getElem?_cons_succ, List.getElem?_cons_zero, Nat.reduceAdd, Nat.reduceLeDiff, Nat.reduceEqDiff, Nat.zero_add, Nat.add_zero, Nat.le_refl, Nat.zero_le, Nat.succ_ne_self, Nat.mul_one, Int.toNat_natCast, Option.some.injEq, Option.isNone_some, Option.isNone_none, V.int.injEq, V.str.injEq, V.bool.injEq, V.ptr.injEq, V.slc.injEq, V.map.injEq, V.agg.injEq, V.tup.injEq, List.cons.injEq, Prod.mk.injEq, onS, true_and, and_true, and_assoc, exists_and_left, exists_eq_left', forall_eq, heq_eq_eq, reduceCtorEq, Bool.not_true, Bool.not_false, eq_self, not_false_eq_true, Nat.left_eq_add, Nat.add_eq_left, Nat.add_left_cancel_iff, Nat.add_right_cancel_iff, Nat.reduceEqDiff, Nat.one_ne_zero, Hp.get_set_self, Hp.get_set_ne, Hp.get_alloc_self, Hp.get_alloc_ne, Hp.get_alloc_at, Hp.get_set_at, Hp.set_next, Hp.alloc_next, Option.some_ne_none, V.tup.injEq, Option.isSome_some, Option.isSome_none, exists_eq_left, exists_eq, Nat.mul_zero], by simp (disch := (first | omega | (simp only [Hp.alloc_next, Hp.set_next] <;> omega) | (simp (disch := (first | omega | (simp only [Hp.alloc_next, Hp.set_next] <;> omega) | fail)) only [Hp.get_set_self, Hp.get_set_ne, Hp.get_alloc_self, Hp.get_alloc_ne, Hp.get_alloc_at, Hp.get_set_at, Hp.set_next, Hp.alloc_next]; done) | fail)) only [Hp.st, Hp.ld, Hp.lda, splice, ble_eq', if_true, if_false, ite_true, ite_false, cond_true, cond_false, decide_true, decide_false, List.length_cons, List.length_nil, List.take_zero, List.take_succ_cons, List.nil_append, List.cons_append, List.append_nil, List.drop_succ_cons, List.drop_zero, List.drop_nil, List.getElem?_cons_succ, List.getElem?_cons_zero, Nat.reduceAdd, Nat.reduceLeDiff, Nat.reduceEqDiff, Nat.zero_add, Nat.add_zero, Nat.le_refl, Nat.zero_le, Nat.succ_ne_self, Nat.mul_one, Int.toNat_natCast, Option.some.injEq, Option.isNone_some, Option.isNone_none, V.int.injEq, V.str.injEq, V.bool.injEq, V.ptr.injEq, V.slc.injEq, V.map.injEq, V.agg.injEq, V.tup.injEq, List.cons.injEq, Prod.mk.injEq, onS, true_and, and_true, and_assoc, exists_and_left, exists_eq_left', forall_eq, heq_eq_eq, reduceCtorEq, Bool.not_true, Bool.not_false, eq_self, not_false_eq_true, Nat.left_eq_add, Nat.add_eq_left, Nat.add_left_cancel_iff, Nat.add_right_cancel_iff, Nat.reduceEqDiff, Nat.one_ne_zero, Hp.get_set_self, Hp.get_set_ne, Hp.get_alloc_self, Hp.get_alloc_ne, Hp.get_alloc_at, Hp.get_set_at, Hp.set_next, Hp.alloc_next, Option.some_ne_none, V.tup.injEq, Option.isSome_some, Option.isSome_none, exists_eq_left, exists_eq, Nat.mul_zero]; omega, (q2.wf.alloc.set (Nat.lt_succ_self _)).set (by simp (disch := (first | omega | (simp only [Hp.alloc_next, Hp.set_next] <;> omega) | (simp (disch := (first | omega | (simp only [Hp.alloc_next, Hp.set_next] <;> omega) | fail)) only [Hp.get_set_self, Hp.get_set_ne, Hp.get_alloc_self, Hp.get_alloc_ne, Hp.get_alloc_at, Hp.get_set_at, Hp.set_next, Hp.alloc_next]; done) | fail)) only [Hp.st, Hp.ld, Hp.lda, splice, ble_eq', if_true, if_false, ite_true, ite_false, cond_true, cond_false, decide_true, decide_false, List.length_cons, List.length_nil, List.take_zero, List.take_succ_cons, List.nil_append, List.cons_append, List.append_nil, List.drop_succ_cons, List.drop_zero, List.drop_nil, List.getElem?_cons_succ, List.getElem?_cons_zero, Nat.reduceAdd, Nat.reduceLeDiff, Nat.reduceEqDiff, Nat.zero_add, Nat.add_zero, Nat.le_refl, Nat.zero_le, Nat.succ_ne_self, Nat.mul_one, Int.toNat_natCast, Option.some.injEq, Option.isNone_some, Option.isNone_none, V.int.injEq, V.str.injEq, V.bool.injEq, V.ptr.injEq, V.slc.injEq, V.map.injEq, V.agg.injEq, V.tup.injEq, List.cons.injEq, Prod.mk.injEq, onS, true_and, and_true, and_assoc, exists_and_left, exists_eq_left', forall_eq, heq_eq_eq, reduceCtorEq, Bool.not_true, Bool.not_false, eq_self, not_false_eq_true, Nat.left_eq_add, Nat.add_eq_left, Nat.add_left_cancel_iff, Nat.add_right_cancel_iff, Nat.reduceEqDiff, Nat.one_ne_zero, Hp.get_set_self, Hp.get_set_ne, Hp.get_alloc_self, Hp.get_alloc_ne, Hp.get_alloc_at, Hp.get_set_at, Hp.set_next, Hp.alloc_next, Option.some_ne_none, V.tup.injEq, Option.isSome_some, Option.isSome_none, exists_eq_left, exists_eq, Nat.mul_zero]; omega)⟩
  have b4 : g4.get g2.next = some (.row [.int .u8 2, .int .u32 ip, .int .u16 port, .bool true] 1 false) := by rw [hg4, Hp.get_set_self]; rfl
  rw [← hg4]
  clear hg4
  have n12 := q2.le
  have q14 := q2.trans q24
  have r4 := r1.quiet q1.wf q14
  obtain ⟨b, hb⟩ : ∃ b : Bd, b = ⟨2, ip, port, true⟩ := ⟨_, rfl⟩
  have hb' : V.agg [.int .u8 2, .int .u32 ip, .int .u16 port, .bool true] = bV b := by rw [hb]; rfl
  refine ⟨fun vs g => match vs with
    | [.int _ i] => ∃ k : Nat, i = k ∧ k ≤ N ∧ PortsR (h.next + 1) (shL b k) g [h.next + 1, h.next] ∧ g.get g2.next = some (.row [.int .u8 2, .int .u32 ip, .int .u16 port, .bool true] 1 false) ∧ g.wf
    | _ => False, fun vs _ => match vs with
    | [.int _ i] => N - i.toNat
    | _ => 0, ⟨by trivial, 0, rfl, by omega, r4, b4, q14.wf⟩, ?_⟩
  rintro bs i g ⟨k, rfl, hk, r, gb, gw⟩
  have step : ∀ {g g' : Hp} {F' : List Nat}, g.wf → g.get g2.next = some (.row [.int .u8 2, .int .u32 ip, .int .u16 port, .bool true] 1 false) → Upd g g' [h.next + 1, h.next] F' → g'.get g2.next = some (.row [.int .u8 2, .int .u32 ip, .int .u16 port, .bool true] 1 false) := fun w e u => by
    rw [u.same _ (w.lt e) (by simp; omega)]; exact e
  cases hlt : ltI (↑k) (↑N) with
  | true =>
    rw [ltI_eq, decide_eq_true_eq] at hlt
    refine ⟨2, ip, port, true, by simp (disch := (first | omega | (simp only [Hp.alloc_next, Hp.set_next] <;> omega) | (simp (disch := (first | omega | (simp only [Hp.alloc_next, Hp.set_next] <;> omega) | fail)) only [Hp.get_set_self, Hp.get_set_ne, Hp.get_alloc_self, Hp.get_alloc_ne, Hp.get_alloc_at, Hp.get_set_at, Hp.set_next, Hp.alloc_next, gb]; done) | fail)) only [Hp.st, Hp.ld, Hp.lda, splice, ble_eq', if_true, if_false, ite_true, ite_false, cond_true, cond_false, decide_true, decide_false, List.length_cons, List.length_nil, List.take_zero, List.take_succ_cons, List.nil_append, List.cons_append, List.append_nil, List.drop_succ_cons, List.drop_zero, List.drop_nil, List.getElem?_cons_succ, List.getElem?_cons_zero, Nat.reduceAdd, Nat.reduceLeDiff, Nat.reduceEqDiff, Nat.zero_add, Nat.add_zero, Nat.le_refl, Nat.zero_le, Nat.succ_ne_self, Nat.mul_one, Int.toNat_natCast, Option.some.injEq, Option.isNone_some, Option.isNone_none, V.int.injEq, V.str.injEq, V.bool.injEq, V.ptr.injEq, V.slc.injEq, V.map.injEq, V.agg.injEq, V.tup.injEq, List.cons.injEq, Prod.mk.injEq, onS, true_and, and_true, and_assoc, exists_and_left, exists_eq_left', forall_eq, heq_eq_eq, reduceCtorEq, Bool.not_true, Bool.not_false, eq_self, not_false_eq_true, Nat.left_eq_add, Nat.add_eq_left, Nat.add_left_cancel_iff, Nat.add_right_cancel_iff, Nat.reduceEqDiff, Nat.one_ne_zero, Hp.get_set_self, Hp.get_set_ne, Hp.get_alloc_self, Hp.get_alloc_ne, Hp.get_alloc_at, Hp.get_set_at, Hp.set_next, Hp.alloc_next, Option.some_ne_none, V.tup.injEq, Option.isSome_some, Option.isSome_none, exists_eq_left, exists_eq, Nat.mul_zero, gb], ?_⟩
    rw [wr (x := (100 : Int) - k) (by omega) (by omega), u64w (x := (100 : Int) - k) (by omega) (by omega), hb']
    refine (bind_spec (b := b) gw r).mono ?_
    rintro _ g5 ⟨rfl, r5, u5, w5⟩
    have e0 : bindCode (shL b k) (100 - (k : Int)) b = 0 := by
      refine bind_0 (may_of (by rw [hb]) (by rw [hb]; exact hp0) (shL_get (by omega)) (by rw [shL_len]; omega)) ?_
      rw [List.any_eq_false]
      intro x hx
      obtain ⟨j, hj, rfl⟩ := mem_shL hx
      simp [clashB, hb]
    rw [e0] at r5
    simp only [if_true] at r5
    rw [← shL_succ] at r5
    refine ⟨_, rfl, ?_⟩
    rw [e0]
    simp only [bne_self_eq_false, cond_false]
    have hw1 : IntKind.i64.wrap ((k : Int) + 1) = ((k + 1 : Nat) : Int) := by rw [wr (by omega) (by omega)]; rfl
    rw [hw1]
    exact ⟨by trivial, ⟨k + 1, rfl, by omega, r5, step gw gb u5, w5⟩, by simp only [Int.toNat_natCast]; omega⟩
  | false =>
    rw [ltI_eq, decide_eq_false_iff_not] at hlt
    have : k = N := by omega
    subst this
    clear hlt
    refine (at_spec gw r (by rw [shL_len]; omega)).mono ?_
    rintro _ g5 ⟨a, n, f, l, G, rfl, hp, hs, hO, hG, q5⟩
    have hk0 : 0 < k := by omega
    rw [hb, who_shL hk0, ← hb] at hp
    have hll : l.length = k := by rw [hp.length_eq]; simp [shL_len]
    have hnk : n = k := by have := hO.1; simp [hll] at this; exact this.symm
    subst hnk
    have rd5 := own_rd hO
    have hnd : l.Nodup := hp.nodup_iff.2 (nodup_shL b n)
    have gb5 : g5.get g2.next = some (.row [.int .u8 2, .int .u32 ip, .int .u16 port, .bool true] 1 false) := by rw [q5.same _ (gw.lt gb)]; exact gb
    have r5 := r.quiet gw q5
    refine ⟨_, _, _, rfl, ?_⟩
    simp only [bne_self_eq_false, cond_false]
    refine (tcp_spec q5.wf).mono ?_
    rintro _ g6 ⟨rfl, q6⟩
    refine ⟨_, _, _, _, rfl, ?_⟩
    have r6 := r5.quiet q5.wf q6
    obtain ⟨c, hc⟩ : ∃ c : Bd, c = ⟨2, ip, port, false⟩ := ⟨_, rfl⟩
    have hc' : V.agg [.int .u8 2, .int .u32 ip, .int .u16 port, .bool false] = bV c := by rw [hc]; rfl
    rw [hc']
    refine (bind_spec (b := c) q6.wf r6).mono ?_
    rintro _ g7 ⟨rfl, r7, u7, w7⟩
    have e7 : bindCode (shL b n) 5 c = 220 := by
      refine bind_220 (may_of (by rw [hc]) (by rw [hc]; exact hp0) (shL_get (by omega)) (by rw [shL_len]; omega)) ?_
      rw [List.any_eq_true]
      refine ⟨(100, b), List.mem_map.2 ⟨0, List.mem_range.2 hk0, rfl⟩, ?_⟩
      simp [clashB, meetB, hb, hc]
    rw [e7] at r7
    rw [if_neg (by decide)] at r7
    refine ⟨_, rfl, ?_⟩
    rw [e7]
    simp only [bne_self_eq_false, cond_false]
    have gb6 : g6.get g2.next = some (.row [.int .u8 2, .int .u32 ip, .int .u16 port, .bool true] 1 false) := by rw [q6.same _ (q5.wf.lt gb5)]; exact gb5
    have gb7 := step q6.wf gb6 u7
    have hrl := fun j hj => (PortsR.rep _ _).lt gw r (j := j) hj
    have haq : ∀ q o, a = some (q, o) → g.next ≤ q ∧ q < g5.next := fun q o e => by
      subst e
      have h3 := hO.2.2
      simp only at h3
      obtain ⟨rfl, front, hf, hg⟩ := h3
      exact ⟨hG q (by simp), q5.wf.lt hg⟩
    have h1g := hrl (h.next + 1) (by simp)
    have h0g := hrl h.next (by simp)
    have hqF : ∀ q o, a = some (q, o) → q ∉ [h.next + 1, h.next] := fun q o e => by
      have := haq q o e
      simp; omega
    have rd7 : Rd a n l g7 := rd5.keep fun q o e => by
      have := haq q o e
      have := q6.le
      rw [u7.same _ (by omega) (hqF q o e), q6.same _ (by omega)]
    refine ⟨fun vs g => match vs with
      | [.int _ i] => ∃ k : Nat, i = k ∧ 1 ≤ k ∧ k ≤ n ∧ g = g7
      | _ => False, fun vs _ => match vs with
      | [.int _ i] => n - i.toNat
      | _ => 0, ⟨by trivial, 1, rfl, by omega, by omega, by trivial⟩, ?_⟩
    rintro bs2 i g8 ⟨k, rfl, hk1, hkn, rfl⟩
    cases hlt : ltI (↑k) (↑n) with
    | true =>
      rw [ltI_eq, decide_eq_true_eq] at hlt
      rw [wr (x := (k : Int) - 1) (by omega) (by omega)]
      obtain ⟨q, o, x1, ha, hx1, hl1⟩ := rd7.ld (k := k - 1) (by omega)
      obtain ⟨q', o', x2, ha', hx2, hl2⟩ := rd7.ld (k := k) (by omega)
      rw [ha] at ha'
      cases ha'
      have t1 : ((k : Int) - 1).toNat = k - 1 := by omega
      have t2 : ((k : Int)).toNat = k := by omega
      rw [t1, t2, ha]
      refine ⟨⟨by omega, by omega⟩, x1, hl1, ⟨by omega, by omega⟩, x2, hl2, ?_⟩
      have hlt12 : ltI x1 x2 = true := by
        rw [ltI_eq, decide_eq_true_eq]
        have hle : x1 ≤ x2 := by
          obtain ⟨i1, e1⟩ := List.getElem?_eq_some_iff.1 hx1
          obtain ⟨i2, e2⟩ := List.getElem?_eq_some_iff.1 hx2
          have := List.pairwise_iff_getElem.1 hs (k - 1) k i1 i2 (by omega)
          rw [e1, e2] at this; exact this
        have hne : x1 ≠ x2 := by
          obtain ⟨i1, e1⟩ := List.getElem?_eq_some_iff.1 hx1
          obtain ⟨i2, e2⟩ := List.getElem?_eq_some_iff.1 hx2
          have := List.pairwise_iff_getElem.1 hnd (k - 1) k i1 i2 (by omega)
          rw [e1, e2] at this; exact this
        omega
      rw [hlt12]
      simp only [Bool.not_true, cond_false]
      have hw1 : IntKind.i64.wrap ((k : Int) + 1) = ((k + 1 : Nat) : Int) := by rw [wr (by omega) (by omega)]; rfl
      rw [hw1]
      exact ⟨by trivial, ⟨k + 1, rfl, by omega, by omega, by trivial⟩, by simp only [Int.toNat_natCast]; omega⟩
    | false =>
      clear hlt
      refine (give_spec w7 r7 (nodup_shL b n) (by rw [shL_len]; omega) rd7 (by omega) hqF).mono ?_
      rintro _ g9 ⟨rfl, r9, u9, w9⟩
      have hwo : without (shL b n) l = [] := by
        unfold without
        rw [List.filter_eq_nil_iff]
        intro x hx
        have : x.1 ∈ l := hp.mem_iff.2 (List.mem_map.2 ⟨x, hx, rfl⟩)
        simpa using this
      rw [hwo] at r9
      refine ⟨_, rfl, ?_⟩
      have gb9 := step w7 gb7 u9
      refine (tcp_spec w9).mono ?_
      rintro _ g10 ⟨rfl, q10⟩
      refine ⟨_, _, _, _, rfl, ?_⟩
      rw [hc']
      refine (bind_spec (b := c) q10.wf (r9.quiet w9 q10)).mono ?_
      rintro _ g11 ⟨rfl, r11, u11, w11⟩
      have e11 : bindCode [] 5 c = 0 := bind_0 (may_of (by rw [hc]) (by rw [hc]; exact hp0) rfl (by simp)) rfl
      rw [e11] at r11
      simp only [if_true, List.nil_append] at r11
      refine ⟨_, rfl, ?_⟩
      rw [e11]
      simp only [beq_self_eq_true, cond_true]
      have gb10 : g10.get g2.next = some (.row [.int .u8 2, .int .u32 ip, .int .u16 port, .bool true] 1 false) := by rw [q10.same _ (w9.lt gb9)]; exact gb9
      have gb11 := step q10.wf gb10 u11
      refine ⟨2, ip, port, true, by simp (disch := (first | omega | (simp only [Hp.alloc_next, Hp.set_next] <;> omega) | (simp (disch := (first | omega | (simp only [Hp.alloc_next, Hp.set_next] <;> omega) | fail)) only [Hp.get_set_self, Hp.get_set_ne, Hp.get_alloc_self, Hp.get_alloc_ne, Hp.get_alloc_at, Hp.get_set_at, Hp.set_next, Hp.alloc_next, gb11]; done) | fail)) only [Hp.st, Hp.ld, Hp.lda, splice, ble_eq', if_true, if_false, ite_true, ite_false, cond_true, cond_false, decide_true, decide_false, List.length_cons, List.length_nil, List.take_zero, List.take_succ_cons, List.nil_append, List.cons_append, List.append_nil, List.drop_succ_cons, List.drop_zero, List.drop_nil, List.getElem?_cons_succ, List.getElem?_cons_zero, Nat.reduceAdd, Nat.reduceLeDiff, Nat.reduceEqDiff, Nat.zero_add, Nat.add_zero, Nat.le_refl, Nat.zero_le, Nat.succ_ne_self, Nat.mul_one, Int.toNat_natCast, Option.some.injEq, Option.isNone_some, Option.isNone_none, V.int.injEq, V.str.injEq, V.bool.injEq, V.ptr.injEq, V.slc.injEq, V.map.injEq, V.agg.injEq, V.tup.injEq, List.cons.injEq, Prod.mk.injEq, onS, true_and, and_true, and_assoc, exists_and_left, exists_eq_left', forall_eq, heq_eq_eq, reduceCtorEq, Bool.not_true, Bool.not_false, eq_self, not_false_eq_true, Nat.left_eq_add, Nat.add_eq_left, Nat.add_left_cancel_iff, Nat.add_right_cancel_iff, Nat.reduceEqDiff, Nat.one_ne_zero, Hp.get_set_self, Hp.get_set_ne, Hp.get_alloc_self, Hp.get_alloc_ne, Hp.get_alloc_at, Hp.get_set_at, Hp.set_next, Hp.alloc_next, Option.some_ne_none, V.tup.injEq, Option.isSome_some, Option.isSome_none, exists_eq_left, exists_eq, Nat.mul_zero, gb11], ?_⟩
      rw [hb']
      refine (bind_spec (b := b) w11 r11).mono ?_
      rintro _ g12 ⟨rfl, r12, u12, w12⟩
      have e12 : bindCode [(5, c)] 6 b = 220 := by
        refine bind_220 (may_of (by rw [hb]) (by rw [hb]; exact hp0) (by simp [mget]) (by simp)) ?_
        simp [clashB, meetB, hb, hc]
      refine ⟨_, rfl, ?_⟩
      rw [e12]
      simp only [beq_self_eq_true, cond_true]
      exact works_spec fun _ => ⟨_, rfl, KT _⟩
end Go.Vex.PortsShare

namespace Go.Proofs.Ytehihinmgejpaaa.portsShare
open Go.ChangeShapes Go.WideShapes Go.ChangeAt Go.RowKit Go.Vex Go.Vex.PortsShare
open Go.ChangeMaps (open_string shut_string)

theorem own : ownKnob Try.prog.godebug = none := by kernel_rfl

set_option maxRecDepth 100000 in
theorem lifted (os : Os) (started : os.Started) (H : Type) (enc : TypeId × Value → H) :
    ReturnsInHanded {} Try.checked os 7 .any (Rows.portsShareSpec.pre6 enc Try.prog Try.f7 Rows.portsShareRow.domain false) (Rows.portsShareSpec.post enc Try.prog Try.f7 false true false false) := by
  refine returnsInHanded_of_change_sized (C := Try.checked) own started (by kernel_rfl) Try.func7
    (ChangeSpec.witness6 (enc := enc) (C := Try.checked) false ⟨#[], #[.int .u8 0, .int .u32 0, .int .u16 0], []⟩ 8 (by kernel_rfl) (by kernel_rfl) (by kernel_rfl) (by kernel_rfl)) ?_
  intro W base args ds gs before hval0 hW hcnd hsz _
  have hval : ∀ (j : Nat) t v, Try.f7.params[j]? = some t → args[j]? = some v → Value.okWide Try.prog W .any base t v := hval0
  have hW' := hW
  obtain ⟨p, q, hA0, hV, rfl, hfz, hnd⟩ := hW
  have hA : DataW.TrodAll enc Try.prog W 0 (fun _ => true) true Try.f7.params.toList args.toList ds p := hA0
  rw [Try.params7] at hA hval hsz
  obtain ⟨v0, vs0, d0, ds0, p0, q0, hargs, rfl, rfl, h0, r0⟩ := trodAll_cons hA
  obtain ⟨v1, vs1, d1, ds1, p1, q1, rfl, rfl, rfl, h1, r1⟩ := trodAll_cons r0
  obtain ⟨v2, vs2, d2, ds2, p2, q2, rfl, rfl, rfl, h2, r2⟩ := trodAll_cons r1
  obtain ⟨rfl, rfl, rfl⟩ := trodAll_nil r2
  obtain rfl : args = #[v0, v1, v2] := by cases args; simp_all
  obtain ⟨rfl, rfl⟩ := trodVars_none hV
  obtain ⟨a0, rfl, rfl, rfl, w0⟩ := open_int Try.underlying5 (hval 0 5 v0 rfl rfl) h0
  obtain ⟨a1, rfl, rfl, rfl, w1⟩ := open_int Try.underlying23 (hval 1 23 v1 rfl rfl) h1
  obtain ⟨a2, rfl, rfl, rfl, w2⟩ := open_int Try.underlying24 (hval 2 24 v2 rfl rfl) h2
  refine (XCalls.true' (Sat.none W fun _ => ⟨0, 0, 0, 0⟩) (vs := [.int .u8 a0, .int .u32 a1, .int .u16 a2]) ⟨_, _, rfl, rfl, ⟨_, _, rfl, rfl, ⟨_, _, rfl, rfl, rfl⟩⟩⟩ (law_calls a0 w0 a1 w1 a2 w2)).mono fun e W' ⟨he, hb⟩ => ?_
  subst he
  exact ⟨_, rfl, post_true (by kernel_rfl) hW' hb rfl (fun gs hg => by subst hg; rfl) (tb := 4) rfl Try.underlying4 (by decide +kernel)⟩

theorem over : Rows.portsShareRow.holds Try.pinned (OpenSpec.ofChange Rows.portsShareSpec) :=
  OpenClaim.holds_of_wide 7 Try.f7 rfl rfl rfl rfl rfl rfl rfl ⟨rfl, rfl, rfl, rfl, rfl⟩ rfl rfl rfl rfl rfl (by kernel_rfl) Try.func7 (by kernel_rfl)
    (of_decide_eq_true (by kernel_rfl)) (by unfold Func.isWrapper; first | (rw [if_pos (by decide +kernel)]; kernel_rfl) | (rw [if_neg (by decide +kernel)]; exact ⟨rfl, rfl⟩))
    (fun os started H enc _ => lifted os started H enc)

theorem proved : Rows.PortsShareSaid :=
  over
#print axioms proved
end Go.Proofs.Ytehihinmgejpaaa.portsShare

