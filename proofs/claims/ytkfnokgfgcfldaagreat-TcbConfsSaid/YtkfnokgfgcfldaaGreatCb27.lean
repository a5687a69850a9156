/-
  What an end says first (layer 27): may, say, runs, settles.
-/
import Derived.Test.YtkfnokgfgcfldaaGreatVexFF
import Derived.Test.YtkfnokgfgcfldaaGreatTab27
import Derived.Test.YtkfnokgfgcfldaaGreatXa27
import Derived.Test.YtkfnokgfgcfldaaGreatCa27
set_option linter.unusedVariables false
set_option linter.unusedSimpArgs false
namespace Go.Vex.Tcb
open Go.Proofs

def X92T (q : Nat) (h'3 : Hp) (K : V → Hp → Prop) (t : Nat) (flags : Int) : Prop :=
  ∃ (Q1 : List V → Hp → Prop),
                                                              (bif ltI (0 : Int) (bits BinOp.and IntKind.u8 flags (2 : Int)) then
                                                                  ∃ (n14 : Int),
                                                                    h'3.ld t (5 : Nat) = some (V.int IntKind.i64 n14) ∧
                                                                      ∃ (h'4 : Hp),
                                                                        h'3.st q (9 : Nat) [V.int IntKind.u16 (IntKind.u16.wrap n14)] = some h'4 ∧
                                                                          ∃ (a1 : Option (Nat × Nat)),
                                                                            h'4.ld t (19 : Nat) = some (V.ptr a1) ∧
                                                                              bif a1.isNone then
                                                                                ∃ (n15 : Int),
                                                                                  h'4.ld t (6 : Nat) = some (V.int IntKind.i64 n15) ∧
                                                                                    ∃ (h'5 : Hp),
                                                                                      h'4.st q (10 : Nat) [V.int IntKind.i64 n15] = some h'5 ∧
                                                                                        [V.ptr (some (t, (0 : Nat))), V.ptr (some (q, (0 : Nat)))] =
                                                                                            [V.ptr (some (t, (0 : Nat))), V.ptr (some (q, (0 : Nat)))] ∧
                                                                                          Q1 [] h'5
                                                                              else
                                                                                ∃ (b1 : Bool),
                                                                                  h'4.ld t (30 : Nat) = some (V.bool b1) ∧
                                                                                    bif b1 then
                                                                                      ∃ (n16 : Int),
                                                                                        h'4.ld t (6 : Nat) = some (V.int IntKind.i64 n16) ∧
                                                                                          ∃ (h'6 : Hp),
                                                                                            h'4.st q (10 : Nat) [V.int IntKind.i64 n16] = some h'6 ∧
                                                                                              [V.ptr (some (t, (0 : Nat))), V.ptr (some (q, (0 : Nat)))] =
                                                                                                  [V.ptr (some (t, (0 : Nat))), V.ptr (some (q, (0 : Nat)))] ∧
                                                                                                Q1 [] h'6
                                                                                    else
                                                                                      [V.ptr (some (t, (0 : Nat))), V.ptr (some (q, (0 : Nat)))] =
                                                                                          [V.ptr (some (t, (0 : Nat))), V.ptr (some (q, (0 : Nat)))] ∧
                                                                                        Q1 [] h'4
                                                                else
                                                                  [V.ptr (some (t, (0 : Nat))), V.ptr (some (q, (0 : Nat)))] =
                                                                      [V.ptr (some (t, (0 : Nat))), V.ptr (some (q, (0 : Nat)))] ∧
                                                                    Q1 [] h'3) ∧
                                                                ∀ (bs1 : Nat → Option V) (h1 : Hp),
                                                                  Q1 [] h1 →
                                                                    ∃ (Q2 : List V → Hp → Prop),
                                                                      (∃ (a2 : Option (Nat × Nat)),
                                                                          h1.ld t (19 : Nat) = some (V.ptr a2) ∧
                                                                            bif !a2.isNone then
                                                                              ∃ (n17 : Int),
                                                                                h1.ld q (6 : Nat) = some (V.int IntKind.u8 n17) ∧
                                                                                  ∃ (h'7 : Hp),
                                                                                    h1.st q (6 : Nat) [V.int IntKind.u8 (bits BinOp.or IntKind.u8 n17 (16 : Int))] = some h'7 ∧
                                                                                      XCalls Tryz.prog (79 : Nat) [V.ptr (some (t, (0 : Nat)))] h'7 fun (v2 : V) (h'8 : Hp) =>
                                                                                        ∃ (n18 : Int),
                                                                                          v2 = V.int IntKind.u32 n18 ∧
                                                                                            ∃ (h'9 : Hp),
                                                                                              h'8.st q (5 : Nat) [V.int IntKind.u32 n18] = some h'9 ∧
                                                                                                ∃ (h'10 : Hp),
                                                                                                  h'9.st t (36 : Nat) [V.bool false] = some h'10 ∧
                                                                                                    ∃ (h'11 : Hp),
                                                                                                      h'10.st t (37 : Nat) [V.int IntKind.i64 (0 : Int)] = some h'11 ∧
                                                                                                        ∃ (h'12 : Hp),
                                                                                                          h'11.st t (40 : Nat) [V.int IntKind.i64 (-1 : Int)] = some h'12 ∧
                                                                                                            [V.ptr (some (t, (0 : Nat))), V.ptr (some (q, (0 : Nat)))] =
                                                                                                                [V.ptr (some (t, (0 : Nat))), V.ptr (some (q, (0 : Nat)))] ∧
                                                                                                              Q2 [] h'12
                                                                            else
                                                                              [V.ptr (some (t, (0 : Nat))), V.ptr (some (q, (0 : Nat)))] =
                                                                                  [V.ptr (some (t, (0 : Nat))), V.ptr (some (q, (0 : Nat)))] ∧
                                                                                Q2 [] h1) ∧
                                                                        ∀ (bs2 : Nat → Option V) (h2 : Hp),
                                                                          Q2 [] h2 →
                                                                            ∃ (a3 : Option (Nat × Nat)),
                                                                              ∃ (n19 : Nat),
                                                                                ∃ (f1 : Bool),
                                                                                  h2.ld t (48 : Nat) = some (V.slc a3 n19 f1) ∧
                                                                                    ∃ (n20 : Int),
                                                                                      ∃ (n21 : Int),
                                                                                        ∃ (n22 : Int),
                                                                                          ∃ (n23 : Int),
                                                                                            ∃ (n24 : Int),
                                                                                              ∃ (n25 : Int),
                                                                                                ∃ (n26 : Int),
                                                                                                  ∃ (n27 : Int),
                                                                                                    ∃ (n28 : Int),
                                                                                                      ∃ (n29 : Int),
                                                                                                        ∃ (n30 : Int),
                                                                                                          ∃ (s1 : List UInt8),
                                                                                                            h2.lda q (0 : Nat) (12 : Nat) =
                                                                                                                some
                                                                                                                  (V.agg
                                                                                                                    [V.int IntKind.u32 n20, V.int IntKind.u16 n21, V.int IntKind.u32 n22,
                                                                                                                      V.int IntKind.u16 n23, V.int IntKind.u32 n24, V.int IntKind.u32 n25,
                                                                                                                      V.int IntKind.u8 n26, V.int IntKind.u16 n27, V.int IntKind.u16 n28,
                                                                                                                      V.int IntKind.u16 n29, V.int IntKind.i64 n30, V.str s1]) ∧
                                                                                                              ∀ (h'13 : Hp),
                                                                                                                h'13 =
                                                                                                                    h2.alloc
                                                                                                                      (O.row
                                                                                                                        [V.int IntKind.u32 n20, V.int IntKind.u16 n21, V.int IntKind.u32 n22,
                                                                                                                          V.int IntKind.u16 n23, V.int IntKind.u32 n24, V.int IntKind.u32 n25,
                                                                                                                          V.int IntKind.u8 n26, V.int IntKind.u16 n27, V.int IntKind.u16 n28,
                                                                                                                          V.int IntKind.u16 n29, V.int IntKind.i64 n30, V.str s1]
                                                                                                                        (12 : Nat) false) →
                                                                                                                  (∃ (a4 : Option (Nat × Nat)),
                                                                                                                      ∃ (n31 : Nat),
                                                                                                                        ∃ (f2 : Bool),
                                                                                                                          h'13.ld t (48 : Nat) = some (V.slc a4 n31 f2) ∧
                                                                                                                            V.slc a4 n31 f2 = V.slc a3 n19 f1) ∧
                                                                                                                    V.ptr (some (t, (48 : Nat))) = V.ptr (some (t, (48 : Nat))) ∧
                                                                                                                      V.ptr (some (t, (0 : Nat))) = V.ptr (some (t, (0 : Nat))) ∧
                                                                                                                        V.ptr (some (t, (0 : Nat))) = V.ptr (some (t, (0 : Nat))) ∧
                                                                                                                          V.ptr (some (t, (0 : Nat))) = V.ptr (some (t, (0 : Nat))) ∧
                                                                                                                            ∃ (p1 : Option (Nat × Nat)),
                                                                                                                              ∃ (n32 : Nat),
                                                                                                                                ∃ (f3 : Bool),
                                                                                                                                  ∃ (h'14 : Hp),
                                                                                                                                    xapp T h'13 (58 : Nat) (58 : Nat) (V.slc a3 n19 f1)
                                                                                                                                          (V.slc (some (h2.next, (0 : Nat))) (1 : Nat) true) =
                                                                                                                                        some (V.slc p1 n32 f3, h'14) ∧
                                                                                                                                      V.ptr (some (t, (0 : Nat))) = V.ptr (some (t, (0 : Nat))) ∧
                                                                                                                                        ∃ (h'15 : Hp),
                                                                                                                                          h'14.st t (48 : Nat) [V.slc p1 n32 f3] = some h'15 ∧
                                                                                                                                            K (V.tup []) h'15

/-- one end at t that turns, all else as in h -/
structure Sta (h : Hp) (t : Nat) (inn : Option Nat) (rt : Nat) (g : Hp) : Prop where
  ex : ∃ L, TcR t L g ∧ TcI L inn rt
  oth : ∀ j, j ≠ t → g.get j = h.get j
  nx : g.next = h.next
  wf : g.wf

section
variable {h g : Hp} {t rt : Nat} {inn : Option Nat}

theorem Sta.lt (s : Sta h t inn rt g) : t < g.next := by
  obtain ⟨L, hg, i⟩ := s.ex
  exact s.wf.lt hg

theorem Sta.I (s : Sta h t inn rt g) {o : Nat} {k : IntKind} {n : Int} (hz : tZ[o]? = some (.int k n)) : ∃ m, g.ld t o = some (.int k m) := by
  obtain ⟨L, hg, i⟩ := s.ex
  obtain ⟨m, hm⟩ := kI i.shp hz
  exact ⟨m, by rw [Hp.ld_of hg]; exact hm⟩

theorem Sta.B (s : Sta h t inn rt g) {o : Nat} {b : Bool} (hz : tZ[o]? = some (.bool b)) : ∃ m, g.ld t o = some (.bool m) := by
  obtain ⟨L, hg, i⟩ := s.ex
  obtain ⟨m, hm⟩ := kB i.shp hz
  exact ⟨m, by rw [Hp.ld_of hg]; exact hm⟩

theorem Sta.st (s : Sta h t inn rt g) {o : Nat} {v z : V} (hz : tZ[o]? = some z) (hv : shpB z v = true) (ho : o ≠ 22 ∧ o ≠ 19 ∧ o ≠ 20 ∧ o ≠ 16 ∧ o ≠ 15 ∧ o ≠ 36) : ∃ g', g.st t o [v] = some g' ∧ Sta h t inn rt g' := by
  obtain ⟨L, hg, i⟩ := s.ex
  have hl : o < L.length := by
    rw [i.len]
    exact (List.getElem?_eq_some_iff.1 hz).1
  exact ⟨_, st1 hg hl v, ⟨_, Hp.get_set_self, i.set hz hv ho⟩, fun j hj => by rw [Hp.get_set_ne hj]; exact s.oth j hj, by rw [Hp.set_next]; exact s.nx, s.wf.set (s.wf.lt hg)⟩

theorem Sta.flight (s : Sta h t inn rt g) : XCalls Tryz.prog 93 [.ptr (some (t, 0))] g fun v h' => (∃ n, v = .int .i64 n) ∧ h' = g := by
  obtain ⟨L, hg, i⟩ := s.ex
  exact flight_spec hg i

abbrev rtoRow : List V := [.int .i64 0, .int .i64 0, .bool false, .int .i64 0]

theorem runs_spec (s0 : Sta h t inn rt g) (hr : h.get rt = some (.row rtoRow 1 false)) (hne : rt ≠ t) (before : Int) :
    XCalls Tryz.prog 96 [.ptr (some (t, 0)), .int .i64 before] g fun v h' => v = .tup [] ∧ Sta h t inn rt h' := by
  refine XCalls.cps fun K hK => ?_
  have fin : ∀ g, Sta h t inn rt g → K (.tup []) g := fun g s => hK _ _ ⟨rfl, s⟩
  have time : ∀ {g}, Sta h t inn rt g → XCalls Tryz.prog 39 [.ptr (some (rt, 0))] g fun v h' => (∃ n, v = .int .i64 n) ∧ h' = g := fun s => time_spec (by rw [s.oth rt hne]; exact hr)
  have rto : ∀ {g}, Sta h t inn rt g → g.ld t 20 = some (.ptr (some (rt, 0))) := fun s => by
    obtain ⟨L, hg, i⟩ := s.ex
    rw [Hp.ld_of hg]; exact i.rto
  apply x96; unfold X96
  refine ⟨fun vs g' => vs = [.bool false] ∧ g' = g, ?_, ?_⟩
  · obtain ⟨L, hg, i⟩ := s0.ex
    refine (sends_spec hg i).mono ?_
    rintro _ _ ⟨rfl, rfl⟩
    exact ⟨_, rfl, rfl, rfl, rfl⟩
  rintro bs b4 g1 ⟨hb, rfl⟩
  cases hb
  refine ⟨fun vs g' => Sta h t inn rt g', s0.flight.mono ?_, ?_⟩
  · rintro _ g1 ⟨⟨n3, rfl⟩, rfl⟩
    refine ⟨_, rfl, ?_⟩
    cases (n3 == 0) with
    | true =>
      obtain ⟨g', e, s'⟩ := s0.st (o := 38) (v := .int .i64 (-1)) rfl rfl (by decide)
      exact ⟨g', e, rfl, s'⟩
    | false =>
      cases (before == 0) with
      | true =>
        obtain ⟨n4, h4⟩ := s0.I (o := 14) rfl
        refine ⟨n4, h4, _, rto s0, (time s0).mono ?_⟩
        rintro _ g1 ⟨⟨n5, rfl⟩, rfl⟩
        obtain ⟨g', e, s'⟩ := s0.st (o := 38) (v := .int .i64 (IntKind.i64.wrap (n4 + n5))) rfl rfl (by decide)
        exact ⟨_, rfl, ⟨_, h4, rfl⟩, rfl, rfl, rfl, rfl, g', e, rfl, s'⟩
      | false =>
        obtain ⟨n7, h7⟩ := s0.I (o := 38) rfl
        refine ⟨n7, h7, ?_⟩
        cases (n7 == -1) with
        | true =>
          obtain ⟨n4, h4⟩ := s0.I (o := 14) rfl
          refine ⟨n4, h4, _, rto s0, (time s0).mono ?_⟩
          rintro _ g1 ⟨⟨n5, rfl⟩, rfl⟩
          obtain ⟨g', e, s'⟩ := s0.st (o := 38) (v := .int .i64 (IntKind.i64.wrap (n4 + n5))) rfl rfl (by decide)
          exact ⟨_, rfl, ⟨_, h4, rfl⟩, rfl, rfl, rfl, rfl, g', e, rfl, s'⟩
        | false => exact ⟨rfl, s0⟩
  rintro bs2 g2 s2
  refine ⟨fun vs g' => Sta h t inn rt g', s2.flight.mono ?_, ?_⟩
  · rintro _ g2 ⟨⟨n3, rfl⟩, rfl⟩
    refine ⟨_, rfl, ?_⟩
    cases ltI 0 n3 with
    | true =>
      obtain ⟨g', e, s'⟩ := s2.st (o := 39) (v := .int .i64 (-1)) rfl rfl (by decide)
      exact ⟨g', e, rfl, s'⟩
    | false =>
      obtain ⟨g', e, s'⟩ := s2.st (o := 39) (v := .int .i64 (-1)) rfl rfl (by decide)
      exact ⟨g', e, rfl, s'⟩
  rintro bs3 g3 s3
  refine ⟨fun vs g' => (∃ b, vs = [.bool b]) ∧ Sta h t inn rt g', ?_, ?_⟩
  · obtain ⟨n16, h16⟩ := s3.I (o := 11) rfl
    refine ⟨n16, h16, ?_⟩
    cases ltI 0 n16 with
    | false => exact ⟨rfl, ⟨_, rfl⟩, s3⟩
    | true =>
      obtain ⟨n17, h17⟩ := s3.I (o := 15) rfl
      refine ⟨n17, h17, ?_⟩
      cases (n17 == 4) with
      | true =>
        refine s3.flight.mono ?_
        rintro _ g3 ⟨⟨n, rfl⟩, rfl⟩
        exact ⟨_, rfl, rfl, ⟨_, rfl⟩, s3⟩
      | false =>
        refine ⟨n17, h17, ?_⟩
        cases (n17 == 7) with
        | true =>
          refine s3.flight.mono ?_
          rintro _ g3 ⟨⟨n, rfl⟩, rfl⟩
          exact ⟨_, rfl, rfl, ⟨_, rfl⟩, s3⟩
        | false => exact ⟨rfl, ⟨_, rfl⟩, s3⟩
  rintro bs4 b5 g4 ⟨⟨b, hb⟩, s4⟩
  cases b5 with
  | false =>
    obtain ⟨g', e, s'⟩ := s4.st (o := 41) (v := .int .i64 (-1)) rfl rfl (by decide)
    exact ⟨g', e, fin _ s'⟩
  | true =>
    obtain ⟨n21, h21⟩ := s4.I (o := 41) rfl
    refine ⟨n21, h21, ?_⟩
    cases (n21 == -1) with
    | true =>
      obtain ⟨n22, h22⟩ := s4.I (o := 14) rfl
      obtain ⟨n23, h23⟩ := s4.I (o := 11) rfl
      obtain ⟨g', e, s'⟩ := s4.st (o := 41) (v := .int .i64 (IntKind.i64.wrap (n22 + n23))) rfl rfl (by decide)
      exact ⟨n22, h22, n23, h23, g', e, fin _ s'⟩
    | false => exact fin _ s4

theorem settles_spec (s0 : Sta h t inn rt g) (hr : h.get rt = some (.row rtoRow 1 false)) (hne : rt ≠ t) :
    XCalls Tryz.prog 59 [.ptr (some (t, 0))] g fun v h' => v = .tup [] ∧ Sta h t inn rt h' := by
  obtain ⟨L, hg, i⟩ := s0.ex
  apply x59; unfold X59
  refine ⟨0, by rw [Hp.ld_of hg]; exact i.over, ?_⟩
  refine s0.flight.mono ?_
  rintro _ g ⟨⟨n, rfl⟩, rfl⟩
  refine ⟨_, rfl, fun vs g' => g' = g, ⟨fun vs g' => g' = g, fun _ _ => 0, ⟨rfl, rfl⟩, ?_⟩, ?_⟩
  · rintro bs g rfl
    refine (sends_spec hg i).mono ?_
    rintro _ g ⟨rfl, rfl⟩
    exact ⟨_, rfl, rfl, rfl⟩
  · rintro bs g rfl
    refine ⟨false, by rw [Hp.ld_of hg]; exact i.owed, ?_⟩
    refine (runs_spec s0 hr hne n).mono ?_
    rintro _ g' ⟨rfl, s'⟩
    exact ⟨rfl, s'⟩

/-! ### say -/

def xZ : List V := [.int .u32 0, .int .u16 0, .int .u32 0, .int .u16 0, .int .u32 0, .int .u32 0, .int .u8 0, .int .u16 0, .int .u16 0, .int .u16 0, .int .i64 0, .str []]

theorem shp12 {X : List V} (h : shpBs xZ X = true) : ∃ a b c d e f g i j k l m, X = [.int .u32 a, .int .u16 b, .int .u32 c, .int .u16 d, .int .u32 e, .int .u32 f, .int .u8 g, .int .u16 i, .int .u16 j, .int .u16 k, .int .i64 l, .str m] := by
  rcases X with _ | ⟨v0, _ | ⟨v1, _ | ⟨v2, _ | ⟨v3, _ | ⟨v4, _ | ⟨v5, _ | ⟨v6, _ | ⟨v7, _ | ⟨v8, _ | ⟨v9, _ | ⟨va, _ | ⟨vb, _ | ⟨vc, X⟩⟩⟩⟩⟩⟩⟩⟩⟩⟩⟩⟩⟩ <;> simp only [xZ, shpBs, Bool.and_eq_true, and_true, Bool.false_eq_true, and_false] at h
  obtain ⟨e0, e1, e2, e3, e4, e5, e6, e7, e8, e9, ea, eb⟩ := h
  cases v0 <;> simp [shpB] at e0
  cases v1 <;> simp [shpB] at e1
  cases v2 <;> simp [shpB] at e2
  cases v3 <;> simp [shpB] at e3
  cases v4 <;> simp [shpB] at e4
  cases v5 <;> simp [shpB] at e5
  cases v6 <;> simp [shpB] at e6
  cases v7 <;> simp [shpB] at e7
  cases v8 <;> simp [shpB] at e8
  cases v9 <;> simp [shpB] at e9
  cases va <;> simp [shpB] at ea
  cases vb <;> simp [shpB] at eb
  subst e0 e1 e2 e3 e4 e5 e6 e7 e8 e9 ea
  exact ⟨_, _, _, _, _, _, _, _, _, _, _, _, rfl⟩

/-- an end at t, a segment at q that is made, all else as in h -/
structure Say (h : Hp) (t q : Nat) (inn : Option Nat) (rt : Nat) (g : Hp) : Prop where
  ex : ∃ L, TcR t L g ∧ TcI L inn rt ∧ L[48]? = some (.slc none 0 true)
  x : ∃ X, g.get q = some (.row X 1 false) ∧ shpBs xZ X = true
  oth : ∀ j, j ≠ t → j ≠ q → g.get j = h.get j
  nx : g.next = h.next
  wf : g.wf

theorem Say.stX {q : Nat} (s : Say h t q inn rt g) (hq : q ≠ t) {o : Nat} {v z : V} (hz : xZ[o]? = some z) (hv : shpB z v = true) : ∃ g', g.st q o [v] = some g' ∧ Say h t q inn rt g' := by
  obtain ⟨X, hx, sx⟩ := s.x
  obtain ⟨L, hg, i, e⟩ := s.ex
  have hl : o < X.length := by rw [shp_len sx]; exact (List.getElem?_eq_some_iff.1 hz).1
  exact ⟨_, st1 hx hl v, ⟨L, by unfold TcR; rw [Hp.get_set_ne (Ne.symm hq)]; exact hg, i, e⟩, ⟨_, Hp.get_set_self, shp_set sx hz hv⟩, fun j h1 h2 => by rw [Hp.get_set_ne h2]; exact s.oth j h1 h2, by rw [Hp.set_next]; exact s.nx, s.wf.set (s.wf.lt hx)⟩

theorem Say.stT {q : Nat} (s : Say h t q inn rt g) (hq : q ≠ t) {o : Nat} {v z : V} (hz : tZ[o]? = some z) (hv : shpB z v = true) (ho : o ≠ 22 ∧ o ≠ 19 ∧ o ≠ 20 ∧ o ≠ 16 ∧ o ≠ 15 ∧ o ≠ 36) (h48 : o ≠ 48) : ∃ g', g.st t o [v] = some g' ∧ Say h t q inn rt g' := by
  obtain ⟨X, hx, sx⟩ := s.x
  obtain ⟨L, hg, i, e⟩ := s.ex
  have hl : o < L.length := by rw [i.len]; exact (List.getElem?_eq_some_iff.1 hz).1
  exact ⟨_, st1 hg hl v, ⟨_, Hp.get_set_self, i.set hz hv ho, by rw [List.getElem?_set_ne h48]; exact e⟩, ⟨X, by rw [Hp.get_set_ne hq]; exact hx, sx⟩, fun j h1 h2 => by rw [Hp.get_set_ne h1]; exact s.oth j h1 h2, by rw [Hp.set_next]; exact s.nx, s.wf.set (s.wf.lt hg)⟩

theorem set_same {L : List V} {o : Nat} {v : V} (h : L[o]? = some v) : L.set o v = L := by
  apply List.ext_getElem?
  intro j
  by_cases e : o = j
  · subst e
    rw [List.getElem?_set_self (List.getElem?_eq_some_iff.1 h).1, h]
  · rw [List.getElem?_set_ne e]

theorem Say.stO {q : Nat} (s : Say h t q inn rt g) (hq : q ≠ t) : ∃ g', g.st t 36 [.bool false] = some g' ∧ Say h t q inn rt g' := by
  obtain ⟨X, hx, sx⟩ := s.x
  obtain ⟨L, hg, i, e⟩ := s.ex
  have hl : 36 < L.length := by rw [i.len]; decide
  refine ⟨_, st1 hg hl _, ⟨L, by unfold TcR; rw [Hp.get_set_self, set_same i.owed], i, e⟩, ⟨X, by rw [Hp.get_set_ne hq]; exact hx, sx⟩, fun j h1 h2 => by rw [Hp.get_set_ne h1]; exact s.oth j h1 h2, by rw [Hp.set_next]; exact s.nx, s.wf.set (s.wf.lt hg)⟩

theorem t58 : ∃ ti e ei, T 58 = some ti ∧ ti.d = .slc e ∧ T e = some ei ∧ ei.size = 12 ∧ ei.bytes ≤ 64 ∧ zok ei = true := ⟨_, _, _, rfl, rfl, rfl, rfl, by decide, rfl⟩

theorem say_tail {q : Nat} {K : V → Hp → Prop} (s0 : Say h t q inn rt g) (hi : InR inn h) (hq : q ≠ t) (hni : ∀ p, inn = some p → p ≠ t ∧ p ≠ q)
    (hK : ∀ g', (∃ L, TcR t L g' ∧ TcI L inn rt) → (∀ j, j ≠ t → j ≠ q → j < g.next → g'.get j = h.get j) → g.next ≤ g'.next → g'.wf → K (.tup []) g') : X92T q g K t 2 := by
  have inR : ∀ {g}, Say h t q inn rt g → InR inn g := fun {g} s p hp => by
    obtain ⟨a, m, b, e⟩ := hi p hp
    obtain ⟨n1, n2⟩ := hni p hp
    exact ⟨a, m, b, by rw [s.oth p n1 n2]; exact e⟩
  have ldI : ∀ {g}, Say h t q inn rt g → ∀ {o k n}, tZ[o]? = some (.int k n) → ∃ m, g.ld t o = some (.int k m) := fun {g} s {o k n} hz => by
    obtain ⟨L, hg, i, _⟩ := s.ex
    obtain ⟨m, hm⟩ := kI i.shp hz
    exact ⟨m, by rw [Hp.ld_of hg]; exact hm⟩
  have ldIn : ∀ {g}, Say h t q inn rt g → g.ld t 19 = some (.ptr (inn.map fun q => (q, 0))) := fun {g} s => by
    obtain ⟨L, hg, i, _⟩ := s.ex
    rw [Hp.ld_of hg]; exact i.inn
  unfold X92T
  have hb : ltI 0 (bits BinOp.and .u8 2 2) = true := by decide +kernel
  rw [hb]
  refine ⟨fun vs g' => Say h t q inn rt g', ?_, ?_⟩
  · obtain ⟨n14, h14⟩ := ldI s0 (o := 5) rfl
    obtain ⟨g4, e4, s4⟩ := s0.stX hq (o := 9) (v := .int .u16 (IntKind.u16.wrap n14)) rfl rfl
    refine ⟨n14, h14, g4, e4, _, ldIn s4, ?_⟩
    obtain ⟨n15, h15⟩ := ldI s4 (o := 6) rfl
    obtain ⟨g5, e5, s5⟩ := s4.stX hq (o := 10) (v := .int .i64 n15) rfl rfl
    cases inn with
    | none => exact ⟨n15, h15, g5, e5, rfl, s5⟩
    | some p =>
      obtain ⟨L, hg, i, _⟩ := s4.ex
      obtain ⟨b, hb⟩ := kB i.shp (o := 30) rfl
      refine ⟨b, by rw [Hp.ld_of hg]; exact hb, ?_⟩
      cases b with
      | true => exact ⟨n15, h15, g5, e5, rfl, s5⟩
      | false => exact ⟨rfl, s4⟩
  rintro bs g1 s1
  refine ⟨fun vs g' => Say h t q inn rt g', ⟨_, ldIn s1, ?_⟩, ?_⟩
  · cases inn with
    | none => exact ⟨rfl, s1⟩
    | some p =>
      obtain ⟨X, hx, sx⟩ := s1.x
      obtain ⟨n17, h17⟩ := kI sx (o := 6) rfl
      obtain ⟨g7, e7, s7⟩ := s1.stX hq (o := 6) (v := .int .u8 (bits BinOp.or .u8 n17 16)) rfl rfl
      refine ⟨n17, by rw [Hp.ld_of hx]; exact h17, g7, e7, ?_⟩
      obtain ⟨L, hg, i, _⟩ := s7.ex
      refine (next_spec hg i (inR s7)).mono ?_
      rintro _ g7 ⟨⟨n18, rfl⟩, rfl⟩
      obtain ⟨g9, e9, s9⟩ := s7.stX hq (o := 5) (v := .int .u32 n18) rfl rfl
      obtain ⟨g10, e10, s10⟩ := s9.stO hq
      obtain ⟨g11, e11, s11⟩ := s10.stT hq (o := 37) (v := .int .i64 0) rfl rfl (by decide) (by decide)
      obtain ⟨g12, e12, s12⟩ := s11.stT hq (o := 40) (v := .int .i64 (-1)) rfl rfl (by decide) (by decide)
      exact ⟨_, rfl, g9, e9, g10, e10, g11, e11, g12, e12, rfl, s12⟩
  rintro bs2 g2 s2
  obtain ⟨L, hg, i, e48⟩ := s2.ex
  obtain ⟨X, hx, sx⟩ := s2.x
  obtain ⟨x0, x1, x2, x3, x4, x5, x6, x7, x8, x9, xa, xb, rfl⟩ := shp12 sx
  refine ⟨none, 0, true, by rw [Hp.ld_of hg]; exact e48, x0, x1, x2, x3, x4, x5, x6, x7, x8, x9, xa, xb, by rw [Hp.lda_of hx (Nat.le_of_ble_eq_true rfl)]; rfl, ?_⟩
  rintro g3 rfl
  obtain ⟨ti, e, ei, ht, hd, he, hs, hb2, hz⟩ := t58
  have hnew : (g2.alloc (.row [.int .u32 x0, .int .u16 x1, .int .u32 x2, .int .u16 x3, .int .u32 x4, .int .u32 x5, .int .u8 x6, .int .u16 x7, .int .u16 x8, .int .u16 x9, .int .i64 xa, .str xb] 12 false)).get g2.next = some (.row [.int .u32 x0, .int .u16 x1, .int .u32 x2, .int .u16 x3, .int .u32 x4, .int .u32 x5, .int .u8 x6, .int .u16 x7, .int .u16 x8, .int .u16 x9, .int .i64 xa, .str xb] 12 false) := Hp.get_alloc_self
  have htl := s2.wf.lt hg
  have hg3 : TcR t L (g2.alloc (.row [.int .u32 x0, .int .u16 x1, .int .u32 x2, .int .u16 x3, .int .u32 x4, .int .u32 x5, .int .u8 x6, .int .u16 x7, .int .u16 x8, .int .u16 x9, .int .i64 xa, .str xb] 12 false)) := by unfold TcR; rw [Hp.get_alloc_ne (by omega)]; exact hg
  have w3 : (g2.alloc (.row [.int .u32 x0, .int .u16 x1, .int .u32 x2, .int .u16 x3, .int .u32 x4, .int .u32 x5, .int .u8 x6, .int .u16 x7, .int .u16 x8, .int .u16 x9, .int .i64 xa, .str xb] 12 false)).wf := s2.wf.alloc
  have n3 : (g2.alloc (.row [.int .u32 x0, .int .u16 x1, .int .u32 x2, .int .u16 x3, .int .u32 x4, .int .u32 x5, .int .u8 x6, .int .u16 x7, .int .u16 x8, .int .u16 x9, .int .i64 xa, .str xb] 12 false)).next = g2.next + 1 := rfl
  have o3 : ∀ j, j < g2.next → (g2.alloc (.row [.int .u32 x0, .int .u16 x1, .int .u32 x2, .int .u16 x3, .int .u32 x4, .int .u32 x5, .int .u8 x6, .int .u16 x7, .int .u16 x8, .int .u16 x9, .int .i64 xa, .str xb] 12 false)).get j = g2.get j := fun j hj => Hp.get_alloc_ne (by omega)
  generalize g2.alloc (.row [.int .u32 x0, .int .u16 x1, .int .u32 x2, .int .u16 x3, .int .u32 x4, .int .u32 x5, .int .u8 x6, .int .u16 x7, .int .u16 x8, .int .u16 x9, .int .i64 xa, .str xb] 12 false) = g3 at *
  obtain ⟨g4, hx4, o4, u4, w4⟩ := (Own.nil 12 g3).app (f := true) (u := 58) (y := .slc (some (g2.next, 0)) 1 true) (news := [[.int .u32 x0, .int .u16 x1, .int .u32 x2, .int .u16 x3, .int .u32 x4, .int .u32 x5, .int .u8 x6, .int .u16 x7, .int .u16 x8, .int .u16 x9, .int .i64 xa, .str xb]]) w3 ht hd ht (by intro k; rw [hd]; exact fun h => by cases h) he hs (by omega) hz
    (xnews_one hnew rfl) (by simp) (by simp) (by simp; omega) (by simp)
  have le4 := u4.le
  have hg4 : TcR t L g4 := by unfold TcR; rw [u4.same t (by omega) (by simp)]; exact hg3
  have hl48 : 48 < L.length := by rw [i.len]; decide
  refine ⟨⟨none, 0, true, by rw [Hp.ld_of hg3]; exact e48, rfl⟩, rfl, rfl, rfl, rfl, _, _, _, g4, hx4, rfl, _, st1 hg4 hl48 _, ?_⟩
  have hn2 := s2.nx
  have hn0 := s0.nx
  refine hK _ ⟨_, Hp.get_set_self, i.set (o := 48) (z := .slc none 0 true) rfl rfl (by decide)⟩ (fun j h1 h2 h3 => ?_) ?_ (w4.set (by omega))
  · rw [Hp.get_set_ne h1, u4.same j (by omega) (by simp), o3 j (by omega), s2.oth j h1 h2]
  · rw [Hp.set_next]; omega
end
