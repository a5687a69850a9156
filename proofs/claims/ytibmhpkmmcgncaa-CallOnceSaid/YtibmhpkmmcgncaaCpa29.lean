/-
  Contracts of ports, first part: which places meet, Bind, Lend, Of, Len.
-/
import Derived.Test.YtibmhpkmmcgncaaVexDD
import Derived.Test.YtibmhpkmmcgncaaTab29
import Derived.Test.YtibmhpkmmcgncaaXp29
set_option linter.unusedVariables false
set_option linter.unusedSimpArgs false
namespace Go.Vex.Ports
open Go.Proofs

structure Bd where
  kind : Int
  ip : Int
  port : Int
  share : Bool
deriving DecidableEq

abbrev kI : Int → V := fun n => .int .u64 n
def bL (b : Bd) : List V := [.int .u8 b.kind, .int .u32 b.ip, .int .u16 b.port, .bool b.share]
def bV (b : Bd) : V := .agg [.int .u8 b.kind, .int .u32 b.ip, .int .u16 b.port, .bool b.share]
def b0 : Bd := ⟨0, 0, 0, false⟩

theorem mtP : MT T 112 kI (bV b0) := ⟨(T 112).get rfl, 30, 46, (T 46).get rfl, rfl, rfl, rfl, rfl, KL.int (ti := (T 30).get rfl) rfl rfl⟩

/-- what is there stays -/
structure Quiet (h h' : Hp) : Prop where
  same : ∀ j, j < h.next → h'.get j = h.get j
  le : h.next ≤ h'.next
  wf : h'.wf

theorem Quiet.refl {h : Hp} (hw : h.wf) : Quiet h h := ⟨fun _ _ => rfl, Nat.le_refl _, hw⟩
theorem Quiet.trans {h h' h'' : Hp} (q : Quiet h h') (r : Quiet h' h'') : Quiet h h'' := ⟨fun j hj => by rw [r.same j (by have := q.le; omega), q.same j hj], by have := q.le; have := r.le; omega, r.wf⟩
theorem Quiet.upd {h h' : Hp} (q : Quiet h h') (F : List Nat) : Upd h h' F F := Upd.quiet F q.same q.le
theorem Quiet.alloc {h : Hp} (hw : h.wf) (o : O) : Quiet h (h.alloc o) := ⟨fun j hj => Hp.get_alloc_ne (by omega), by simp [Hp.alloc_next], hw.alloc⟩

/-- these places stay, and the heap is in order -/
structure Quiet' (n : Nat) (M : List Nat) (h h' : Hp) : Prop where
  here : ∀ j ∈ M, h'.get j = h.get j
  wf : h'.wf
  lt : n < h'.next

def PortsR (p : Nat) (L : List (Int × Bd)) (h : Hp) (F : List Nat) : Prop :=
  ∃ m o, h.get p = some (.row [.map (some m)] 1 false) ∧ h.get m = some o ∧ MO kI bV L o ∧ F = [p, m] ∧ p ≠ m

theorem PortsR.rep (p : Nat) (L : List (Int × Bd)) : Rep (PortsR p L) where
  loc := fun h h' F hs ⟨m, o, h1, h2, h3, h4, h5⟩ => by
    subst h4
    exact ⟨m, o, by rw [hs p (by simp)]; exact h1, by rw [hs m (by simp)]; exact h2, h3, rfl, h5⟩
  dom := fun h F ⟨m, o, h1, h2, h3, h4, h5⟩ j hj => by
    subst h4
    rcases List.mem_cons.1 hj with rfl | hj
    · exact ⟨_, h1, rfl⟩
    · rw [List.mem_singleton] at hj; subst hj; exact ⟨_, h2, h3.rw⟩

theorem PortsR.quiet {p : Nat} {L : List (Int × Bd)} {h h' : Hp} {F : List Nat} (r : PortsR p L h F) (hw : h.wf) (q : Quiet h h') : PortsR p L h' F := (PortsR.rep p L).stay hw r q.same

theorem new_spec {h : Hp} (hw : h.wf) : XCalls Try.prog 33 [] h fun v h' => v = .ptr (some (h.next + 1, 0)) ∧ PortsR (h.next + 1) [] h' [h.next + 1, h.next] ∧ Quiet h h' := by
  apply x33; unfold X33
  rintro h1 rfl h2 rfl
  refine ⟨rfl, ⟨h.next, .map [] 0, Hp.get_alloc_self, by rw [Hp.get_alloc_ne (by simp)]; exact Hp.get_alloc_self, MO.nil _ _, rfl, by omega⟩, ?_⟩
  exact (Quiet.alloc hw _).trans (Quiet.alloc hw.alloc _)

/-- may a socket get a place? -/
def mayCode (L : List (Int × Bd)) (s : Int) (b : Bd) (port : Bool) : Int :=
  if (b.kind ≠ 1 ∧ b.kind ≠ 2) ∨ (port = true ∧ b.port = 0) then 2 else if (mget L s).isSome then 7 else if 1024 ≤ (L.length : Int) then 6 else 0

theorem may_spec {h : Hp} {p : Nat} {L : List (Int × Bd)} {F : List Nat} {s : Int} {b : Bd} {port : Bool} (hw : h.wf) (r : PortsR p L h F) :
    XCalls Try.prog 66 [.ptr (some (p, 0)), .int .u64 s, bV b, .bool port] h fun v h' => v = .int .i64 (mayCode L s b port) ∧ Quiet h h' := by
  obtain ⟨m, o, h1, h2, h3, rfl, h5⟩ := r
  have hpn := hw.lt h1
  have hmn := hw.lt h2
  refine XCalls.cps fun K hK => ?_
  apply x66; unfold X66
  have hlk := h3.look2 mtP s
  have hln := h3.len mtP
  have hlk' : ∀ h m, h.get m = some o → xlook T h 112 (.map (some m)) (.int .u64 s) true = some (.tup [.agg (bL ((mget L s).getD b0)), .bool (mget L s).isSome]) := fun h m hg => by
    rw [hlk h m hg, lookV_getD]; rfl
  unfold bL at hlk'
  clear hlk
  simp (disch := (first | omega | (simp only [Hp.alloc_next, Hp.set_next] <;> omega) | (simp (disch := (first | omega | (simp only [Hp.alloc_next, Hp.set_next] <;> omega) | fail)) only [Hp.get_set_self, Hp.get_set_ne, Hp.get_alloc_self, Hp.get_alloc_ne, Hp.get_alloc_at, Hp.get_set_at, Hp.set_next, Hp.alloc_next, h1, h2, hlk', hln]; done) | fail)) only [Hp.st, Hp.ld, Hp.lda, splice, ble_eq', if_true, if_false, ite_true, ite_false, cond_true, cond_false, decide_true, decide_false, List.length_cons, List.length_nil, List.take_zero, List.take_succ_cons, List.nil_append, List.cons_append, List.append_nil, List.drop_succ_cons, List.drop_zero, List.drop_nil, List.getElem?_cons_succ, List.getElem?_cons_zero, Nat.reduceAdd, Nat.reduceLeDiff, Nat.reduceEqDiff, Nat.zero_add, Nat.add_zero, Nat.le_refl, Nat.zero_le, Nat.succ_ne_self, Nat.mul_one, Int.toNat_natCast, Option.some.injEq, Option.isNone_some, Option.isNone_none, V.int.injEq, V.str.injEq, V.bool.injEq, V.ptr.injEq, V.slc.injEq, V.map.injEq, V.agg.injEq, V.tup.injEq, List.cons.injEq, Prod.mk.injEq, onS, true_and, and_true, and_assoc, exists_and_left, exists_eq_left', forall_eq, heq_eq_eq, reduceCtorEq, Bool.not_true, Bool.not_false, eq_self, not_false_eq_true, Nat.left_eq_add, Nat.add_eq_left, Nat.add_left_cancel_iff, Nat.add_right_cancel_iff, Nat.reduceEqDiff, Nat.one_ne_zero, Hp.get_set_self, Hp.get_set_ne, Hp.get_alloc_self, Hp.get_alloc_ne, Hp.get_alloc_at, Hp.get_set_at, Hp.set_next, Hp.alloc_next, Option.some_ne_none, V.tup.injEq, Option.isSome_some, Option.isSome_none, exists_eq_left, exists_eq, Nat.mul_zero, h1, h2, hlk', hln]
  generalize hg : ((((h.alloc _).alloc _).set _ _) : Hp) = g
  have q : Quiet h g := by
    rw [← hg]
    refine ⟨fun j hj => ?_, by simp [Hp.set_next, Hp.alloc_next]; omega, ?_⟩
    · rw [Hp.get_set_ne (by simp [Hp.alloc_next]; omega), Hp.get_alloc_ne (by simp [Hp.alloc_next]; omega), Hp.get_alloc_ne (by omega)]
    · exact hw.alloc.alloc.set (by simp [Hp.alloc_next])
  have fin : ∀ c, mayCode L s b port = c → K (.int .i64 c) g := fun c hc => hK _ _ ⟨by rw [hc], q⟩
  cases hk1 : b.kind != 1 <;> cases hk2 : b.kind != 2 <;> cases port <;> cases hp : b.port == 0 <;> cases hs : (mget L s).isSome <;> cases hl : ltI (↑L.length) 1024 <;> refine fin _ ?_ <;>
    simp only [bne_iff_ne, beq_iff_eq, ne_eq, bne_eq_false_iff_eq, beq_eq_false_iff_ne, ltI_eq, decide_eq_true_eq, decide_eq_false_iff_not, Bool.not_eq_true] at hk1 hk2 hp hs hl <;>
    simp [mayCode, hk1, hk2, hp, hs] <;> omega

theorem meets_spec {h : Hp} {p : Nat} {b : Bd} : XCalls Try.prog 67 [.ptr (some (p, 0)), bV b] h fun v h' => v = .fn (.func 81) [] [.ptr (some (h.next, 0)), .ptr (some (h.next + 1, 0))] ∧ h' = (h.alloc (.row [.ptr (some (p, 0))] 1 false)).alloc (.row (bL b) 1 false) := by
  apply x67; unfold X67
  rintro h1 rfl h2 rfl
  exact ⟨rfl, rfl⟩

/-- does a place meet another? -/
def meetB (b x : Bd) : Bool := x.kind == b.kind && (x.port == b.port && (x.ip == b.ip || (x.ip == 0 || b.ip == 0)))

/-- the iterator over those whose place a place meets -/
theorem meets1_spec {h : Hp} {K : V → Hp → Prop} {l c1 c2 p : Nat} {L : List (Int × Bd)} {b : Bd} {m : Nat} {o : O} (J : List (Int × Bd) → Hp → Prop) (S : Hp → Prop) (hw : h.wf) (hc1 : h.get c1 = some (.row [.ptr (some (p, 0))] 1 false)) (hc2 : h.get c2 = some (.row (bL b) 1 false))
    (hp : h.get p = some (.row [.map (some m)] 1 false)) (hm : h.get m = some o) (ho : MO kI bV L o)
    (h0 : ∀ h', (∀ j, j ≠ h.next → h'.get j = h.get j) → h'.next = h.next + 1 → h'.wf → J [] h')
    (step : ∀ (done : List (Int × Bd)) (x : Int × Bd) (h1 : Hp), J done h1 → x ∈ L → meetB b x.2 = true → h.next < h1.next → h1.wf → XYield Try.prog l [.int .u64 x.1, bV x.2] h1 fun v h2 => (v = .bool true ∧ J (done ++ [x]) h2 ∧ Quiet' h.next [m, c2, h.next] h1 h2) ∨ (v = .bool false ∧ S h2))
    (stab : ∀ (done : List (Int × Bd)) (h1 h2 : Hp), J done h1 → (∀ j, j ≠ h.next → j < h1.next → h2.get j = h1.get j) → h1.next ≤ h2.next → h2.wf → J done h2)
    (fin : ∀ (done : List (Int × Bd)) (h1 : Hp), J done h1 → (∀ x ∈ L, meetB b x.2 = true → x ∈ done) → K (.tup []) h1)
    (stop : ∀ h1, S h1 → K (.tup []) h1) :
    XCalls Try.prog 81 [.yld l, .ptr (some (c1, 0)), .ptr (some (c2, 0))] h K := by
  obtain ⟨ti, kt, et, ei, ht, hd, he, hz, _⟩ := mtP.ex
  obtain ⟨g, cur, hx, hi, hcur, hsame, hnext, hwg⟩ := (ho.is hm).range hw ht hd
  have hml := hw.lt hm
  have hc2l := hw.lt hc2
  have hne : m ≠ h.next := by omega
  apply x81; unfold X81
  refine ⟨some (p, 0), by rw [Hp.ld_of hc1]; rfl, ?_⟩
  show ∃ r1, h.ld p (0 + 0) = some (.map r1) ∧ _
  refine ⟨some m, by rw [Hp.ld_of hp]; rfl, g, hx, fun _ h1 => ∃ sn done, MapIter kI bV cur m h.next sn h1 ∧ J done h1 ∧ h1.get c2 = some (.row (bL b) 1 false) ∧ h1.wf ∧ h.next < h1.next ∧ (∀ x ∈ L, meetB b x.2 = true → x ∈ done ∨ x ∈ (rem cur sn).map Prod.fst),
    fun _ h1 => match h1.get h.next with
      | some (.miter _ _ sn _) => (rem cur sn).length
      | _ => 0, ⟨rfl, [], [], hi, h0 g hsame hnext hwg, by rw [hsame _ (by omega)]; exact hc2, hwg, by omega, fun x hx hb => .inr (by rw [rem_nil, hcur]; exact hx)⟩, ?_⟩
  rintro bs h1 ⟨sn, done, hi1, hJ, hcc, hw1, hn1, hall⟩
  obtain ⟨r, hr, hend, hforms, hstep⟩ := hi1.next hne
  refine ⟨r, hr, fun hm => ?_, hforms, ?_⟩
  · have := hend hm
    refine fin done h1 hJ fun x hx hb => ?_
    rcases hall x hx hb with h | h
    · exact h
    · rw [this] at h; cases h
  · intro a b' h2 hm2
    obtain ⟨z, hz, rfl, rfl, hi2, hent, hs2, hn2⟩ := hstep a b' h2 hm2
    have hzL : z.1 ∈ L := by rw [← hcur]; exact List.mem_map_of_mem (List.mem_filter.1 hz).1
    have hrs := rem_step hi1.nodup hz
    obtain ⟨clk1, _, _, e1⟩ := hi1.ex
    obtain ⟨clk2, em2, _, e2⟩ := hi2.ex
    have hw2 : h2.wf := fun q o' hq => by
      rw [hn2]
      by_cases e : q = h.next
      · omega
      · rw [hs2 q e] at hq; exact hw1 q o' hq
    have hcc2 : h2.get c2 = some (.row (bL b) 1 false) := by rw [hs2 _ (by omega)]; exact hcc
    -- the loop variable's cell
    obtain ⟨g4, hg4⟩ : ∃ g4, g4 = (h2.alloc (.row [.int .u8 0, .int .u32 0, .int .u16 0, .bool false] 1 false)).set h2.next (.row (bL z.1.2) 1 false) := ⟨_, rfl⟩
    have g4s : ∀ j, j < h2.next → g4.get j = h2.get j := fun j hj => by rw [hg4, Hp.get_set_ne (by omega), Hp.get_alloc_ne (by omega)]
    have g4v : g4.get h2.next = some (.row [.int .u8 z.1.2.kind, .int .u32 z.1.2.ip, .int .u16 z.1.2.port, .bool z.1.2.share] 1 false) := by rw [hg4]; exact Hp.get_set_self
    have g4n : g4.next = h2.next + 1 := by rw [hg4]; rfl
    have g4w : g4.wf := by rw [hg4]; exact hw2.alloc.set (Nat.lt_succ_self _)
    have g4c : g4.get c2 = some (.row [.int .u8 b.kind, .int .u32 b.ip, .int .u16 b.port, .bool b.share] 1 false) := by rw [g4s _ (by omega)]; exact hcc2
    refine ⟨z.1.1, z.1.2.kind, z.1.2.ip, z.1.2.port, z.1.2.share, hent, ?_⟩
    rintro h3 rfl
    refine ⟨_, Hp.st_of Hp.get_alloc_self (Nat.le_of_ble_eq_true rfl), ?_⟩
    have hsp : (h2.alloc (.row [.int .u8 0, .int .u32 0, .int .u16 0, .bool false] 1 false)).set h2.next (.row (splice [.int .u8 0, .int .u32 0, .int .u16 0, .bool false] 0 [.int .u8 z.1.2.kind, .int .u32 z.1.2.ip, .int .u16 z.1.2.port, .bool z.1.2.share]) 1 false) = g4 := by rw [hg4]; rfl
    rw [hsp]
    have J4 : J done g4 := stab done h1 g4 hJ (fun j hj hlt => by rw [g4s j (by omega), hs2 j hj]) (by omega) g4w
    have cnt : ∀ h5 : Hp, h5.get h.next = h2.get h.next → (match h5.get h.next with
        | some (.miter _ _ sn _) => (rem cur sn).length
        | _ => 0) < (match h1.get h.next with
        | some (.miter _ _ sn _) => (rem cur sn).length
        | _ => 0) := fun h5 e => by
      rw [e, e2, e1]
      have := hrs.length_eq
      simp only [List.length_cons] at this
      simp only; omega
    have left : ∀ x ∈ L, meetB b x.2 = true → x ∈ done ∨ x = z.1 ∨ x ∈ (rem cur (sn ++ [z.2])).map Prod.fst := fun x hx hb => by
      rcases hall x hx hb with h | h
      · exact .inl h
      · have := (hrs.map Prod.fst).mem_iff.1 h
        rw [List.map_cons, List.mem_cons] at this
        exact .inr this
    have i4 : MapIter kI bV cur m h.next (sn ++ [z.2]) g4 := hi2.keep (g4s _ (by omega)) (g4s _ (by omega))
    have skip : meetB b z.1.2 = false → ∃ sn done, MapIter kI bV cur m h.next sn g4 ∧ J done g4 ∧ g4.get c2 = some (.row (bL b) 1 false) ∧ g4.wf ∧ h.next < g4.next ∧ (∀ x ∈ L, meetB b x.2 = true → x ∈ done ∨ x ∈ (rem cur sn).map Prod.fst) := fun hmb =>
      ⟨_, done, i4, J4, g4c, g4w, by omega, fun x hx hb => by
        rcases left x hx hb with h | rfl | h
        · exact .inl h
        · rw [hb] at hmb; cases hmb
        · exact .inr h⟩
    have yld : meetB b z.1.2 = true → XYield Try.prog l [.int .u64 z.1.1, .agg [.int .u8 z.1.2.kind, .int .u32 z.1.2.ip, .int .u16 z.1.2.port, .bool z.1.2.share]] g4 fun v h5 => ∃ b5, v = .bool b5 ∧ bif !b5 then K (.tup []) h5 else
        [V.yld l, V.ptr (some (c2, 0)), V.ptr (some (h.next, 0))] = [V.yld l, V.ptr (some (c2, 0)), V.ptr (some (h.next, 0))] ∧ (∃ sn done, MapIter kI bV cur m h.next sn h5 ∧ J done h5 ∧ h5.get c2 = some (.row (bL b) 1 false) ∧ h5.wf ∧ h.next < h5.next ∧ (∀ x ∈ L, meetB b x.2 = true → x ∈ done ∨ x ∈ (rem cur sn).map Prod.fst)) ∧
        (match h5.get h.next with
        | some (.miter _ _ sn _) => (rem cur sn).length
        | _ => 0) < (match h1.get h.next with
        | some (.miter _ _ sn _) => (rem cur sn).length
        | _ => 0) := fun hmb => by
      refine (step done z.1 g4 J4 hzL hmb (by omega) g4w).mono ?_
      rintro v h5 (⟨rfl, J5, q5⟩ | ⟨rfl, S5⟩)
      · refine ⟨true, rfl, rfl, ⟨_, done ++ [z.1], i4.keep (q5.here m (by simp)) (q5.here h.next (by simp)), J5, by rw [q5.here c2 (by simp)]; exact g4c, q5.wf, q5.lt, fun x hx hb => ?_⟩, cnt h5 (by rw [q5.here h.next (by simp)]; exact g4s _ (by omega))⟩
        rcases left x hx hb with h | rfl | h
        · exact .inl (by simp [h])
        · exact .inl (by simp)
        · exact .inr h
      · exact ⟨false, rfl, stop h5 S5⟩
    have cnt4 := cnt g4 (g4s _ (by omega))
    refine ⟨_, by rw [Hp.ld_of g4v]; rfl, _, by rw [Hp.ld_of g4c]; rfl, ?_⟩
    cases hk : z.1.2.kind != b.kind with
    | true => exact ⟨rfl, skip (by simp at hk; simp [meetB, hk]), cnt4⟩
    | false =>
      simp only [bne_eq_false_iff_eq] at hk
      refine ⟨_, by rw [Hp.ld_of g4v]; rfl, _, by rw [Hp.ld_of g4c]; rfl, ?_⟩
      cases hpo : z.1.2.port != b.port with
      | true => exact ⟨rfl, skip (by simp at hpo; simp [meetB, hpo]), cnt4⟩
      | false =>
        simp only [bne_eq_false_iff_eq] at hpo
        refine ⟨_, by rw [Hp.ld_of g4v]; rfl, _, by rw [Hp.ld_of g4c]; rfl, ?_⟩
        have lda : g4.lda h2.next 0 4 = some (.agg [.int .u8 z.1.2.kind, .int .u32 z.1.2.ip, .int .u16 z.1.2.port, .bool z.1.2.share]) := by rw [Hp.lda_of g4v (Nat.le_of_ble_eq_true rfl)]; rfl
        cases hip : z.1.2.ip != b.ip with
        | true =>
          simp only [bne_iff_ne, ne_eq] at hip
          refine ⟨_, by rw [Hp.ld_of g4v]; rfl, ?_⟩
          cases hz0 : z.1.2.ip != 0 with
          | true =>
            simp only [bne_iff_ne, ne_eq] at hz0
            refine ⟨_, by rw [Hp.ld_of g4c]; rfl, ?_⟩
            cases hb0 : b.ip != 0 with
            | true => simp only [bne_iff_ne, ne_eq] at hb0; exact ⟨rfl, skip (by simp [meetB, hip, hz0, hb0]), cnt4⟩
            | false => simp only [bne_eq_false_iff_eq] at hb0; exact ⟨_, _, _, _, lda, yld (by simp [meetB, hk, hpo, hb0])⟩
          | false => simp only [bne_eq_false_iff_eq] at hz0; exact ⟨_, _, _, _, lda, yld (by simp [meetB, hk, hpo, hz0])⟩
        | false => simp only [bne_eq_false_iff_eq] at hip; exact ⟨_, _, _, _, lda, yld (by simp [meetB, hk, hpo, hip])⟩
end Go.Vex.Ports
