/-
  MeterOrder of layer 04: whatever the script and where it is parted, the law returns true and leaves the input as it was. No condition of its own; the card lists two tables of unicode/utf8, which no step reads.
-/
import Derived.Test.YtakkppekchofdaaDoorVexFF
import Derived.Test.YtakkppekchofdaaDoorTab04
import Derived.Test.YtakkppekchofdaaDoorMx04
import Derived.Test.YtakkppekchofdaaDoorXe04
import Derived.Test.YtakkppekchofdaaDoorPx04
import Derived.Test.YtakkppekchofdaaDoorPbx04
import Derived.Test.YtakkppekchofdaaDoorRx04
import Derived.Test.YtakkppekchofdaaDoorGx04
import Derived.Test.YtakkppekchofdaaDoorRows
import Derived.Test.YtakkppekchofdaaDoorTie
import Derived.Test.YtakkppekchofdaaDoorCards
import Derived.WalkKit
import Derived.ProofKit
import Derived.OpenShut
import Derived.KernelRfl
import Derived.LaidMore
import Derived.Lay
import Derived.SevenTiedAt
import Derived.Stop.Joined
set_option linter.unusedVariables false
set_option linter.unusedSimpArgs false
namespace Go.Vex.MeterOrder
open Go.Proofs Go.Vex.Mtr Go.Vex.Fl

theorem Own.of {h : Hp} {q : Nat} {v : V} (hg : h.get q = some (.row [v] 1 false)) : Own 1 (some (q, 0)) 1 [[v]] h [q] :=
  ⟨rfl, fun r hr => by rw [List.mem_singleton] at hr; rw [hr]; rfl, rfl, [], rfl, hg⟩

/-- behind i of n -/
structure Inv (h : Hp) (p : Nat) (Ss : List Mtr.St) (u i : Nat) (g : Hp) : Prop where
  q : ∀ j, j < p → g.get j = h.get j
  le : p + 8 ≤ g.next
  wf : g.wf
  a : MtR (p + 1) (play [] (Ss.take i)) g [p + 1, p]
  b : MtR (p + 3) (play [] (Ss.reverse.take i)) g [p + 3, p + 2]
  c : MtR (p + 5) (play [] (Ss.take (min i u))) g [p + 5, p + 4]
  d : MtR (p + 7) (play [] ((Ss.take i).drop u)) g [p + 7, p + 6]

theorem stay {h h' : Hp} {R : Hp → List Nat → Prop} {F : List Nat} (hR : Rep R) (hw : h.wf) (q : Quiet h h') (hr : R h F) : R h' F := hR.stay hw hr q.same

theorem Inv.quiet {h g g' : Hp} {p u i : Nat} {Ss : List Mtr.St} (v : Inv h p Ss u i g) (q : Quiet g g') : Inv h p Ss u i g' :=
  ⟨fun j hj => by have := v.le; rw [q.same j (by omega), v.q j hj], by have := v.le; have := q.le; omega, q.wf, stay (MtR.rep _ _) v.wf q v.a, stay (MtR.rep _ _) v.wf q v.b, stay (MtR.rep _ _) v.wf q v.c, stay (MtR.rep _ _) v.wf q v.d⟩

theorem play_step (Q : List Mtr.St) {i : Nat} {x : Mtr.St} (h : Q[i]? = some x) : (addR (play [] (Q.take i)) x.1 x.2.1 x.2.2).2 = play [] (Q.take (i + 1)) := (play_snoc [] Q h).symm

theorem drop_step (Q : List Mtr.St) {i u : Nat} {x : Mtr.St} (h : Q[i]? = some x) (hu : u ≤ i) : (addR (play [] ((Q.take i).drop u)) x.1 x.2.1 x.2.2).2 = play [] ((Q.take (i + 1)).drop u) := by
  have hl := (List.getElem?_eq_some_iff.1 h).1
  rw [List.take_add_one, h, List.drop_append_of_le_length (by rw [List.length_take]; omega)]
  unfold play
  rw [List.foldl_append]; rfl

set_option maxHeartbeats 1000000 in
theorem law_calls {h : Hp} {a : Option (Nat × Nat)} {n : Nat} {f : Bool} {rows : List (List V)} (ha : RoSlc h a n rows 3)
    (hr0 : ∀ r ∈ rows, shpBs stepZ r = true ∧ ∀ v ∈ r, v.fits) (hbz : n * Tryd.prog.bytesOf 42 ≤ reachBytes) (at' : Int) (w0 : (Lit.int .u8 at').wf = true) :
    XCalls Tryd.prog 5 [.slc a n f, .int .u8 at'] h fun v _ => v = .bool true := by
  obtain ⟨Ss, rfl⟩ := steps_of fun r hr => (hr0 r hr).1
  refine XCalls.ofWf fun hw => ?_
  refine XCalls.cps fun K hK => ?_
  have KT : ∀ h', K (.bool true) h' := fun h' => hK _ _ rfl
  have W : ∀ h', XCalls Tryd.prog 8 [] h' fun v h'' => ∃ b, v = .bool b ∧ K (.bool b) h'' := fun h' => works_spec fun _ => ⟨_, rfl, KT _⟩
  have hb42 : Tryd.prog.bytesOf 42 = 32 := by kernel_rfl
  have hrb' : reachBytes ≤ 9223372036854775806 := by decide
  rw [hb42] at hbz
  have kk := Hp.keeps.refl h
  have hln : Ss.length = n := by have := ha.1; simpa using this
  obtain ⟨hm0, hm1⟩ := lit_bnd w0
  have e0 : IntKind.u8.min = 0 := by decide
  have e1 : IntKind.u8.max = 255 := by decide
  rw [e0] at hm0
  rw [e1] at hm1
  apply x5; unfold X5
  refine (heavy_spec ha kk (by omega)).mono ?_
  rintro _ h ⟨⟨b1, rfl, hb1⟩, rfl⟩
  refine ⟨_, rfl, ?_⟩
  cases b1 with
  | true => exact W _
  | false =>
  cases c50 : ltI 50 (n : Int) with
  | true => exact W _
  | false =>
  rw [ltI_eq, decide_eq_false_iff_not] at c50
  -- are all of them such as may be?
  refine ⟨fun vs g' => match vs with
    | [.int _ k] => ∃ i : Nat, k = (i : Int) ∧ i ≤ n ∧ (∀ x ∈ Ss.take i, okS x) ∧ g' = h
    | _ => False, fun vs _ => match vs with
    | [.int _ k] => ((n : Int) - k).toNat
    | _ => 0, ⟨rfl, 0, rfl, by omega, by simp, rfl⟩, ?_⟩
  rintro bs k h ⟨i, rfl, hi, hok, rfl⟩
  cases hc : ltI (i : Int) (n : Int) with
  | true =>
    rw [ltI_eq, decide_eq_true_eq] at hc
    have bnd : (0 : Int) ≤ (i : Int) ∧ (i : Int) < (n : Int) := ⟨by omega, hc⟩
    obtain ⟨q, r, rfl, hr, hld, _⟩ := ha.ld kk (k := i) (by omega) (sRow_len Ss)
    obtain ⟨x, hx⟩ : ∃ x, Ss[i]? = some x := ⟨_, List.getElem?_eq_getElem (by omega)⟩
    rw [List.getElem?_map, hx] at hr
    obtain rfl := Option.some.inj hr
    refine ⟨bnd, x.2.1, by rw [Int.toNat_natCast, hld 1 (by omega)]; rfl, ?_⟩
    cases c1 : ltI 1099511627776 x.2.1 with
    | true => exact W _
    | false =>
    rw [ltI_eq, decide_eq_false_iff_not] at c1
    refine ⟨bnd, x.2.2, by rw [Int.toNat_natCast, hld 2 (by omega)]; rfl, ?_⟩
    cases c2 : ltI 1099511627776 x.2.2 with
    | true => exact W _
    | false =>
    rw [ltI_eq, decide_eq_false_iff_not] at c2
    refine ⟨bnd, x.1, by rw [Int.toNat_natCast, hld 0 (by omega)]; rfl, ?_⟩
    refine (rmay_spec x.1).mono ?_
    rintro _ h ⟨rfl, rfl⟩
    refine ⟨_, rfl, ?_⟩
    cases c3 : May x.1 with
    | false => exact W _
    | true =>
      refine ⟨rfl, ⟨i + 1, ?_, by omega, fun y hy => ?_, rfl⟩, ?_⟩
      · rw [wr (by omega) (by omega)]; rfl
      · rw [List.take_add_one, hx] at hy
        rcases List.mem_append.1 hy with hy | hy
        · exact hok y hy
        · simp at hy; subst hy; exact ⟨by omega, by omega, c3⟩
      · show ((n : Int) - IntKind.i64.wrap ((i : Int) + 1)).toNat < ((n : Int) - (i : Int)).toNat
        rw [wr (by omega) (by omega)]; omega
  | false =>
  rw [ltI_eq, decide_eq_false_iff_not] at hc
  obtain rfl : n = i := by omega
  rw [List.take_of_length_le (by omega)] at hok
  clear hc hi
  have hl50 : n ≤ 50 := by omega
  -- four meters
  refine (new_spec hw).mono ?_
  rintro _ h1 ⟨rfl, m1, q1, n1⟩
  refine ⟨_, rfl, ?_⟩
  refine (new_spec q1.wf).mono ?_
  rintro _ h2 ⟨rfl, m2, q2, n2⟩
  refine ⟨_, rfl, ?_⟩
  refine (new_spec q2.wf).mono ?_
  rintro _ h3 ⟨rfl, m3, q3, n3⟩
  refine ⟨_, rfl, ?_⟩
  refine (new_spec q3.wf).mono ?_
  rintro _ h4 ⟨rfl, m4, q4, n4⟩
  refine ⟨_, rfl, ?_⟩
  have k1 : h1.next = h.next + 2 := n1
  have k2 : h2.next = h.next + 4 := by omega
  have k3 : h3.next = h.next + 6 := by omega
  have k4 : h4.next = h.next + 8 := by omega
  rw [k1] at m2 ⊢
  rw [k2] at m3 ⊢
  rw [k3] at m4 ⊢
  obtain ⟨u, hu⟩ : ∃ u : Nat, u = at'.toNat % (n + 1) := ⟨_, rfl⟩
  have hun : u ≤ n := by have := Nat.mod_lt at'.toNat (show n + 1 > 0 by omega); omega
  have hn1 : IntKind.i64.wrap ((n : Int) + 1) = ((n + 1 : Nat) : Int) := by rw [wr (by omega) (by omega)]; rfl
  have hmod : (IntKind.i64.wrap at').tmod (IntKind.i64.wrap ((n : Int) + 1)) = (u : Int) := by
    rw [wr (x := at') (by omega) (by omega), hn1, Int.tmod_eq_emod_of_nonneg hm0, hu, Int.natCast_emod, Int.toNat_of_nonneg hm0]
  have q24 := q3.trans q4
  have v0 : Inv h h.next Ss u 0 h4 := by
    refine ⟨fun j hj => ?_, by omega, q4.wf, ?_, ?_, ?_, ?_⟩
    · rw [q24.same j (by omega), q2.same j (by omega), q1.same j hj]
    · exact stay (MtR.rep _ _) q1.wf (q2.trans q24) m1
    · exact stay (MtR.rep _ _) q2.wf q24 m2
    · rw [show min 0 u = 0 by omega]; exact stay (MtR.rep _ _) q3.wf q4 m3
    · rw [List.take_zero, List.drop_nil]; exact m4
  generalize hp : h.next = p at *
  clear m1 m2 m3 m4 q1 q2 q3 q4 q24 n1 n2 n3 n4 k1 k2 k3 k4
  refine ⟨fun vs g' => match vs with
    | [.int _ k] => ∃ i : Nat, k = (i : Int) ∧ i ≤ n ∧ Inv h p Ss u i g'
    | _ => False, fun vs _ => match vs with
    | [.int _ k] => ((n : Int) - k).toNat
    | _ => 0, ⟨rfl, 0, rfl, by omega, v0⟩, ?_⟩
  clear v0
  rintro bs2 k g ⟨i, rfl, hi, v⟩
  have gd : ∀ Q, Mtr.Good (play [] Q) := fun Q => play_good _ Good.nil
  cases hc : ltI (i : Int) (n : Int) with
  | true =>
    rw [ltI_eq, decide_eq_true_eq] at hc
    have bnd : (0 : Int) ≤ (i : Int) ∧ (i : Int) < (n : Int) := ⟨by omega, hc⟩
    have hk : ∀ g' : Hp, (∀ j, j < p → g'.get j = h.get j) → h.keeps g' := fun g' hs => kk.stay hw (by rw [hp]; exact hs)
    have hrev : IntKind.i64.wrap (IntKind.i64.wrap ((n : Int) - 1) - (i : Int)) = ((n - 1 - i : Nat) : Int) := by
      rw [wr (x := (n : Int) - 1) (by omega) (by omega), wr (by omega) (by omega)]; omega
    rw [hrev]
    obtain ⟨q, r, rfl, hr, _, hlda⟩ := ha.ld (hk g v.q) (k := n - 1 - i) (by omega) (sRow_len Ss)
    obtain ⟨y, hy⟩ : ∃ y, Ss[n - 1 - i]? = some y := ⟨_, List.getElem?_eq_getElem (by omega)⟩
    rw [List.getElem?_map, hy] at hr
    obtain rfl := Option.some.inj hr
    have hyr : Ss.reverse[i]? = some y := by
      rw [List.getElem?_reverse (by omega), hln]; exact hy
    obtain ⟨x, hx⟩ : ∃ x, Ss[i]? = some x := ⟨_, List.getElem?_eq_getElem (by omega)⟩
    refine ⟨⟨by omega, by omega⟩, y.1, y.2.1, y.2.2, by rw [Int.toNat_natCast]; exact hlda, ?_⟩
    rintro g1 rfl
    have hg1 : (g.alloc (.row [.str [], .int .i64 0, .int .i64 0] 1 false)).get g.next = some (.row [.str [], .int .i64 0, .int .i64 0] 1 false) := Hp.get_alloc_self
    refine ⟨_, Hp.st_of hg1 (Nat.le_of_ble_eq_true rfl), ?_⟩
    have hg2 : ((g.alloc (.row [.str [], .int .i64 0, .int .i64 0] 1 false)).set g.next (.row (splice [.str [], .int .i64 0, .int .i64 0] 0 [.str y.1, .int .i64 y.2.1, .int .i64 y.2.2]) 1 false)).get g.next = some (.row [.str y.1, .int .i64 y.2.1, .int .i64 y.2.2] 1 false) := Hp.get_set_self
    have qg : Quiet g ((g.alloc (.row [.str [], .int .i64 0, .int .i64 0] 1 false)).set g.next (.row (splice [.str [], .int .i64 0, .int .i64 0] 0 [.str y.1, .int .i64 y.2.1, .int .i64 y.2.2]) 1 false)) := ⟨fun j hj => by rw [Hp.get_set_ne (by omega), Hp.get_alloc_ne (by omega)], by show g.next ≤ g.next + 1; omega, v.wf.alloc.set (by show g.next < g.next + 1; omega)⟩
    have ng : ((g.alloc (.row [.str [], .int .i64 0, .int .i64 0] 1 false)).set g.next (.row (splice [.str [], .int .i64 0, .int .i64 0] 0 [.str y.1, .int .i64 y.2.1, .int .i64 y.2.2]) 1 false)).next = g.next + 1 := rfl
    generalize ((g.alloc (.row [.str [], .int .i64 0, .int .i64 0] 1 false)).set g.next _) = g2 at *
    have v2 := v.quiet qg
    have hlg := v.le
    -- the three loads of l[i]
    have loads : ∀ g' : Hp, (∀ j, j < p → g'.get j = h.get j) → g'.ld q (0 + (i : Int).toNat * 3 + 0) = some (.str x.1) ∧ g'.ld q (0 + (i : Int).toNat * 3 + 1) = some (.int .i64 x.2.1) ∧ g'.ld q (0 + (i : Int).toNat * 3 + 2) = some (.int .i64 x.2.2) := by
      intro g' hs
      obtain ⟨q', r', e, hr', hld', _⟩ := ha.ld (hk g' hs) (k := i) (by omega) (sRow_len Ss)
      cases e
      rw [List.getElem?_map, hx] at hr'
      obtain rfl := Option.some.inj hr'
      rw [Int.toNat_natCast]
      exact ⟨by rw [hld' 0 (by omega)]; rfl, by rw [hld' 1 (by omega)]; rfl, by rw [hld' 2 (by omega)]; rfl⟩
    obtain ⟨l0, l1, l2⟩ := loads g2 v2.q
    refine ⟨bnd, x.1, l0, bnd, x.2.1, l1, bnd, x.2.2, l2, ?_⟩
    refine (add_spec v2.wf v2.a (gd _) x.1 x.2.1 x.2.2).mono ?_
    rintro _ g3 ⟨rfl, a3, u3, n3, w3⟩
    rw [play_step Ss hx] at a3
    have b3 := (u3.frame (MtR.rep _ _) v2.wf v2.b (fun j hj hh => by simp only [List.mem_cons, List.not_mem_nil, or_false] at hj hh; omega)).1
    have c3 := (u3.frame (MtR.rep _ _) v2.wf v2.c (fun j hj hh => by simp only [List.mem_cons, List.not_mem_nil, or_false] at hj hh; omega)).1
    have d3 := (u3.frame (MtR.rep _ _) v2.wf v2.d (fun j hj hh => by simp only [List.mem_cons, List.not_mem_nil, or_false] at hj hh; omega)).1
    have s3 : ∀ j, j < p → g3.get j = h.get j := fun j hj => by rw [u3.same j (by omega) (fun hh => by simp only [List.mem_cons, List.not_mem_nil, or_false] at hh; omega), v2.q j hj]
    have t3 : g3.get g.next = some (.row [.str y.1, .int .i64 y.2.1, .int .i64 y.2.2] 1 false) := by rw [u3.same _ (by omega) (fun hh => by simp only [List.mem_cons, List.not_mem_nil, or_false] at hh; omega)]; exact hg2
    refine ⟨_, rfl, y.1, by rw [Hp.ld_of t3]; rfl, y.2.1, by rw [Hp.ld_of t3]; rfl, y.2.2, by rw [Hp.ld_of t3]; rfl, ?_⟩
    refine (add_spec w3 b3 (gd _) y.1 y.2.1 y.2.2).mono ?_
    rintro _ g4 ⟨rfl, b4, u4, n4, w4⟩
    rw [play_step Ss.reverse hyr] at b4
    have a4 := (u4.frame (MtR.rep _ _) w3 a3 (fun j hj hh => by simp only [List.mem_cons, List.not_mem_nil, or_false] at hj hh; omega)).1
    have c4 := (u4.frame (MtR.rep _ _) w3 c3 (fun j hj hh => by simp only [List.mem_cons, List.not_mem_nil, or_false] at hj hh; omega)).1
    have d4 := (u4.frame (MtR.rep _ _) w3 d3 (fun j hj hh => by simp only [List.mem_cons, List.not_mem_nil, or_false] at hj hh; omega)).1
    have s4 : ∀ j, j < p → g4.get j = h.get j := fun j hj => by rw [u4.same j (by omega) (fun hh => by simp only [List.mem_cons, List.not_mem_nil, or_false] at hh; omega), s3 j hj]
    refine ⟨_, rfl, by rw [hn1]; omega, ?_⟩
    rw [hmod]
    obtain ⟨l0, l1, l2⟩ := loads g4 s4
    have nxt : IntKind.i64.wrap ((i : Int) + 1) = ((i + 1 : Nat) : Int) := by rw [wr (by omega) (by omega)]; rfl
    have meas : ((n : Int) - IntKind.i64.wrap ((i : Int) + 1)).toNat < ((n : Int) - (i : Int)).toNat := by rw [nxt]; omega
    cases hiu : ltI (i : Int) (u : Int) with
    | true =>
      rw [ltI_eq, decide_eq_true_eq] at hiu
      refine ⟨bnd, x.1, l0, bnd, x.2.1, l1, bnd, x.2.2, l2, ?_⟩
      refine (add_spec w4 c4 (gd _) x.1 x.2.1 x.2.2).mono ?_
      rintro _ g5 ⟨rfl, c5, u5, n5, w5⟩
      rw [show min i u = i by omega, play_step Ss hx] at c5
      have a5 := (u5.frame (MtR.rep _ _) w4 a4 (fun j hj hh => by simp only [List.mem_cons, List.not_mem_nil, or_false] at hj hh; omega)).1
      have b5 := (u5.frame (MtR.rep _ _) w4 b4 (fun j hj hh => by simp only [List.mem_cons, List.not_mem_nil, or_false] at hj hh; omega)).1
      have d5 := (u5.frame (MtR.rep _ _) w4 d4 (fun j hj hh => by simp only [List.mem_cons, List.not_mem_nil, or_false] at hj hh; omega)).1
      refine ⟨_, rfl, rfl, ⟨i + 1, nxt, by omega, fun j hj => ?_, by omega, w5, a5, b5, ?_, ?_⟩, meas⟩
      · rw [u5.same j (by omega) (fun hh => by simp only [List.mem_cons, List.not_mem_nil, or_false] at hh; omega), s4 j hj]
      · rw [show min (i + 1) u = i + 1 by omega]; exact c5
      · rw [List.drop_of_length_le (by rw [List.length_take]; omega)] at d5 ⊢; exact d5
    | false =>
      rw [ltI_eq, decide_eq_false_iff_not] at hiu
      refine ⟨bnd, x.1, l0, bnd, x.2.1, l1, bnd, x.2.2, l2, ?_⟩
      refine (add_spec w4 d4 (gd _) x.1 x.2.1 x.2.2).mono ?_
      rintro _ g5 ⟨rfl, d5, u5, n5, w5⟩
      rw [drop_step Ss hx (by omega)] at d5
      have a5 := (u5.frame (MtR.rep _ _) w4 a4 (fun j hj hh => by simp only [List.mem_cons, List.not_mem_nil, or_false] at hj hh; omega)).1
      have b5 := (u5.frame (MtR.rep _ _) w4 b4 (fun j hj hh => by simp only [List.mem_cons, List.not_mem_nil, or_false] at hj hh; omega)).1
      have c5 := (u5.frame (MtR.rep _ _) w4 c4 (fun j hj hh => by simp only [List.mem_cons, List.not_mem_nil, or_false] at hj hh; omega)).1
      refine ⟨_, rfl, rfl, ⟨i + 1, nxt, by omega, fun j hj => ?_, by omega, w5, a5, b5, ?_, d5⟩, meas⟩
      · rw [u5.same j (by omega) (fun hh => by simp only [List.mem_cons, List.not_mem_nil, or_false] at hh; omega), s4 j hj]
      · rw [show min (i + 1) u = u by omega]; rw [show min i u = u by omega] at c5; exact c5
  | false =>
  rw [ltI_eq, decide_eq_false_iff_not] at hc
  obtain rfl : n = i := by omega
  obtain ⟨_, vle, vw, va, vb, vc, vd⟩ := v
  rw [List.take_of_length_le (by omega)] at va vd
  rw [List.take_of_length_le (by rw [List.length_reverse]; omega)] at vb
  rw [show min n u = u by omega] at vc
  clear hmod hn1 hm0 hm1 hu
  -- what they come to
  have okT : ∀ x ∈ Ss.take u, okS x := fun x hx => hok x (List.mem_of_mem_take hx)
  have okD : ∀ x ∈ Ss.drop u, okS x := fun x hx => hok x (List.mem_of_mem_drop hx)
  obtain ⟨pa, la⟩ := play_nil_val Ss hok (by omega)
  obtain ⟨pb, _⟩ := play_nil_val Ss.reverse (fun x hx => hok x (List.mem_reverse.1 hx)) (by rw [List.length_reverse]; omega)
  obtain ⟨pc, lc⟩ := play_nil_val (Ss.take u) okT (by rw [List.length_take]; omega)
  obtain ⟨pd, ld⟩ := play_nil_val (Ss.drop u) okD (by rw [List.length_drop]; omega)
  have gA := gd Ss
  have gC := gd (Ss.take u)
  have gD := gd (Ss.drop u)
  have eAB : play [] Ss.reverse = play [] Ss := good_ext (gd _) gA fun s => by rw [pb, pa, val_perm (List.reverse_perm Ss)]
  rw [eAB] at vb
  have eBD : BD = 1099511627776 := rfl
  have eMX : MX = 4503599627370496 := rfl
  have bdA : ∀ r ∈ play [] Ss, r.2.1 ≤ 54975581388800 ∧ r.2.2 ≤ 54975581388800 := fun r hr => by
    have h1 := mget_of gA.nd (show (r.1, r.2) ∈ play [] Ss from hr)
    rw [pa] at h1
    have := val_le Ss hok _ _ h1
    have h3 : Ss.length * BD ≤ 50 * BD := Nat.mul_le_mul_right _ (by omega)
    omega
  have bdC : ∀ r ∈ play [] (Ss.take u), May r.1 = true ∧ r.2.1 ≤ 54975581388800 ∧ r.2.2 ≤ 54975581388800 := fun r hr => by
    have h1 := mget_of gC.nd (show (r.1, r.2) ∈ play [] (Ss.take u) from hr)
    rw [pc] at h1
    have := val_le _ okT _ _ h1
    have h3 : (Ss.take u).length * BD ≤ 50 * BD := Nat.mul_le_mul_right _ (by rw [List.length_take]; omega)
    exact ⟨gC.may r hr, by omega, by omega⟩
  obtain ⟨jz, jg⟩ := addL_get (play [] (Ss.take u)) (play [] (Ss.drop u)) 54975581388800 54975581388800 gD gC.nd bdC (fun r _ w hw => by
    rw [pd] at hw
    have := val_le _ okD _ _ hw
    have h3 : (Ss.drop u).length * BD ≤ 50 * BD := Nat.mul_le_mul_right _ (by rw [List.length_drop]; omega)
    omega) (by omega) (by rw [List.length_take] at lc; rw [List.length_drop] at ld; omega)
  have hjl : joinL (play [] (Ss.drop u)) [play [] (Ss.take u)] = (0, (addL (play [] (Ss.drop u)) (play [] (Ss.take u))).2) := by
    simp only [joinL]
    rw [if_pos jz]
  have eJ : joinR (play [] (Ss.drop u)) [play [] (Ss.take u)] = (0, play [] Ss) := by
    have e : (addL (play [] (Ss.drop u)) (play [] (Ss.take u))).2 = play [] Ss := by
      refine good_ext (addL_good _ gD fun r hr => ⟨gC.bnd r hr, gC.may r hr⟩) gA fun s => ?_
      rw [jg, pc, pd, pa, comb_comm, ← val_app, List.take_append_drop]
    unfold joinR
    rw [hjl, if_pos rfl, e]
  have hl64 : (play [] Ss).length ≤ 50 := by omega
  have hbd : (play [] Ss).length * 54975581388800 ≤ 50 * 54975581388800 := Nat.mul_le_mul_right _ hl64
  obtain ⟨rt, _, _⟩ := raw_tot (play [] Ss) 54975581388800 (0, 0) bdA (by simp only; omega) (by simp only; omega)
  have etot : tot (play [] Ss) = raw (play [] Ss) := rt
  clear eAB pa pb pc pd la lc ld bdC jz jg hjl okT okD rt
  rintro g1 rfl
  have qa := Quiet.alloc vw (.row [.ptr (some (p + 5, 0))] 1 false)
  have ga : (g.alloc (.row [.ptr (some (p + 5, 0))] 1 false)).get g.next = some (.row [.ptr (some (p + 5, 0))] 1 false) := Hp.get_alloc_self
  generalize g.alloc (.row [.ptr (some (p + 5, 0))] 1 false) = g1 at *
  have va1 := stay (MtR.rep _ _) vw qa va
  have vb1 := stay (MtR.rep _ _) vw qa vb
  have vc1 := stay (MtR.rep _ _) vw qa vc
  have vd1 := stay (MtR.rep _ _) vw qa vd
  have ow : Ow 1 (some (g.next, 0)) 1 (ptrs ([p + 5].map fun q => some (q, 0))) g1 [g.next] := (Own.of ga).ow
  have hjoin := join_spec qa.wf vd1 gD (Rs := [play [] (Ss.take u)]) (f := true) ow (by omega) rfl (by
    intro i q Q hq hQ
    match i, hq, hQ with
    | 0, hq, hQ => cases hq; cases hQ; exact ⟨gC, _, vc1⟩
    | i + 1, hq, hQ => simp at hq)
  rw [eJ] at hjoin
  refine hjoin.mono ?_
  rintro _ g2 ⟨Fd, rfl, d2, u2, w2⟩
  have a2 := (u2.frame (MtR.rep _ _) qa.wf va1 (fun j hj hh => by simp only [List.mem_cons, List.not_mem_nil, or_false] at hj hh; omega)).1
  have b2 := (u2.frame (MtR.rep _ _) qa.wf vb1 (fun j hj hh => by simp only [List.mem_cons, List.not_mem_nil, or_false] at hj hh; omega)).1
  clear va vb vc vd va1 vb1 vc1 vd1 ow hjoin u2 qa ga eJ gC gD
  generalize play [] Ss = A at *
  refine ⟨_, rfl, ?_⟩
  refine (all_spec w2 a2 gA).mono ?_
  rintro _ g3 ⟨x1, f1, G1, rfl, o1, q3, _⟩
  refine ⟨_, _, _, rfl, ?_⟩
  refine (all_spec q3.wf (stay (MtR.rep _ _) w2 q3 b2) gA).mono ?_
  rintro _ g4 ⟨x2, f2, G2, rfl, o2, q4, _⟩
  refine ⟨_, _, _, rfl, ?_⟩
  have q24 := q3.trans q4
  refine (all_spec q4.wf (stay (MtR.rep _ _) w2 q24 d2) gA).mono ?_
  rintro _ g5 ⟨x3, f3, G3, rfl, o3, q5, _⟩
  refine ⟨_, _, _, rfl, ?_⟩
  have hne : ((A.length : Int) != (A.length : Int)) = false := by simp
  rw [hne]
  have q25 := q24.trans q5
  have ft : ∀ n : Nat, n ≤ MX → fIs .f64 .eq (fl n) (fl n) = true := fun n hn => by rw [fIs_eq (lim hn) (lim hn)]; simp
  obtain ⟨tl1, tl2⟩ := tot_le A
  have heq : (!(fIs .f64 .eq (fl (tot A).1) (fl (tot A).1) && fIs .f64 .eq (fl (tot A).2) (fl (tot A).2))) = false := by rw [ft _ tl1, ft _ tl2]; rfl
  refine (total_spec q5.wf (stay (MtR.rep _ _) w2 q25 a2) gA).mono ?_
  rintro _ g6 ⟨rfl, q6⟩
  refine ⟨_, _, rfl, ?_⟩
  have q26 := q25.trans q6
  refine (total_spec q6.wf (stay (MtR.rep _ _) w2 q26 b2) gA).mono ?_
  rintro _ g7 ⟨rfl, q7⟩
  refine ⟨_, _, rfl, rfl, ?_⟩
  rw [heq]
  have q27 := q26.trans q7
  refine (total_spec q7.wf (stay (MtR.rep _ _) w2 q27 a2) gA).mono ?_
  rintro _ g8 ⟨rfl, q8⟩
  refine ⟨_, _, rfl, ?_⟩
  have q28 := q27.trans q8
  refine (total_spec q8.wf (stay (MtR.rep _ _) w2 q28 d2) gA).mono ?_
  rintro _ g9 ⟨rfl, q9⟩
  refine ⟨_, _, rfl, rfl, ?_⟩
  rw [heq]
  have q29 := q28.trans q9
  have a9 := stay (MtR.rep _ _) w2 q29 a2
  have q59 := ((q6.trans q7).trans q8).trans q9
  have o1' := stay (Own.rep _ _ _ _) q3.wf ((q4.trans q5).trans q59) o1
  have o2' := stay (Own.rep _ _ _ _) q4.wf (q5.trans q59) o2
  have o3' := stay (Own.rep _ _ _ _) q5.wf q59 o3
  have w9 := q9.wf
  clear q3 q4 q5 q6 q7 q8 q9 q24 q25 q26 q27 q28 q29 q59 o1 o2 o3 a2 b2 d2
  refine ⟨fun vs g' => match vs with
    | [.cplx .f64 x y, .int _ k] => ∃ i : Nat, k = (i : Int) ∧ i ≤ A.length ∧ x = fl (raw (A.take i)).1 ∧ y = fl (raw (A.take i)).2 ∧ g' = g9
    | _ => False, fun vs _ => match vs with
    | [_, .int _ k] => ((A.length : Int) - k).toNat
    | _ => 0, ⟨rfl, 0, rfl, by omega, fl0.symm, fl0.symm, rfl⟩, ?_⟩
  rintro bs3 x y k g9 ⟨i, rfl, hi, rfl, rfl, rfl⟩
  cases hc : ltI (i : Int) (A.length : Int) with
  | false =>
    rw [ltI_eq, decide_eq_false_iff_not] at hc
    obtain rfl : i = A.length := by omega
    rw [List.take_length]
    refine (total_spec w9 a9 gA).mono ?_
    rintro _ g10 ⟨rfl, q10⟩
    refine ⟨_, _, rfl, rfl, ?_⟩
    rw [← etot, ft _ tl1, ft _ tl2]
    exact W _
  | true =>
    rw [ltI_eq, decide_eq_true_eq] at hc
    have hk : i < A.length := by omega
    have bnd : (0 : Int) ≤ (i : Int) ∧ (i : Int) < (A.length : Int) := ⟨by omega, hc⟩
    obtain ⟨r, hrr⟩ : ∃ r, A[i]? = some r := ⟨_, List.getElem?_eq_getElem hk⟩
    obtain ⟨y1, z1, r1, rfl, hr1, _, hld1, hlda1⟩ := o1'.ld hk
    obtain ⟨y2, z2, r2, rfl, hr2, _, _, hlda2⟩ := o2'.ld hk
    obtain ⟨y3, z3, r3, rfl, hr3, _, _, hlda3⟩ := o3'.ld hk
    rw [rws_get hrr] at hr1 hr2 hr3
    obtain rfl := Option.some.inj hr1
    obtain rfl := Option.some.inj hr2
    obtain rfl := Option.some.inj hr3
    have hmem : r ∈ A := List.mem_of_getElem? hrr
    have he : (!(r.1 == r.1 && ((r.2.1 : Int) == (r.2.1 : Int) && ((r.2.2 : Int) == (r.2.2 : Int) && true)))) = false := by simp
    rw [Int.toNat_natCast]
    refine ⟨bnd, r.1, r.2.1, r.2.2, hlda1, bnd, r.1, r.2.1, r.2.2, hlda2, ?_⟩
    rw [he]
    refine ⟨bnd, r.1, r.2.1, r.2.2, hlda1, bnd, r.1, r.2.1, r.2.2, hlda3, ?_⟩
    rw [he]
    refine ⟨bnd, r.1, by rw [hld1 0 (by omega)]; rfl, ?_⟩
    refine (get_spec a9 gA r.1).mono ?_
    rintro _ g9 ⟨rfl, rfl⟩
    rw [mget_of gA.nd (show (r.1, r.2) ∈ A from hmem), Option.getD_some]
    obtain ⟨b1, b2⟩ := bdA r hmem
    have hti : (A.take i).length ≤ 50 := by rw [List.length_take]; omega
    have hbi : (A.take i).length * 54975581388800 ≤ 50 * 54975581388800 := Nat.mul_le_mul_right _ hti
    obtain ⟨ri, l1, l2⟩ := raw_tot (A.take i) 54975581388800 (0, 0) (fun r hr => bdA r (List.mem_of_mem_take hr)) (by simp only; omega) (by simp only; omega)
    have ri' : tot (A.take i) = raw (A.take i) := ri
    have l1' : (raw (A.take i)).1 ≤ 50 * 54975581388800 := by rw [← ri']; exact Nat.le_trans l1 (by omega)
    have l2' : (raw (A.take i)).2 ≤ 50 * 54975581388800 := by rw [← ri']; exact Nat.le_trans l2 (by omega)
    refine ⟨_, _, rfl, rfl, fl ((raw (A.take i)).1 + r.2.1), fl ((raw (A.take i)).2 + r.2.2), ⟨fAdd_fl (by omega), fAdd_fl (by omega)⟩, rfl, ⟨i + 1, ?_, by omega, ?_, ?_, rfl⟩, ?_⟩
    · rw [wr (by omega) (by omega)]; rfl
    · rw [raw_snoc A hrr]
    · rw [raw_snoc A hrr]
    · show ((A.length : Int) - IntKind.i64.wrap ((i : Int) + 1)).toNat < ((A.length : Int) - (i : Int)).toNat
      rw [wr (by omega) (by omega)]; omega
end Go.Vex.MeterOrder

namespace Go.Proofs.YtakkppekchofdaaDoor.meterOrder
open Go.ChangeShapes Go.WideShapes Go.ChangeAt Go.RowKit Go.Vex Go.Vex.MeterOrder
open Go.ChangeMaps (open_string shut_string)

theorem own : ownKnob Tryd.prog.godebug = none := by kernel_rfl

set_option maxRecDepth 100000 in
theorem lifted (os : Os) (started : os.Started) (H : Type) (enc : TypeId × Value → H) :
    ReturnsInHanded {} Tryd.checked os 5 .any (fun w args => (Rows.meterOrderSpec.pre enc Tryd.prog Tryd.f5 Rows.meterOrderRow.domain false w args ∧ laidMetH Tryd.prog Rows.meterOrderRow.laid w) ∧ sizedMet enc Tryd.prog Tryd.f5 (OpenSpec.ofChange Rows.meterOrderSpec) false w args)
      (Rows.meterOrderSpec.post enc Tryd.prog Tryd.f5 false true false false) := by
  refine returnsInHanded_of_change_and (C := Tryd.checked) (X := fun w _ => laidMetH Tryd.prog Rows.meterOrderRow.laid w) (fun _ _ _ hh h => h.of_heap hh) own started (by kernel_rfl) Tryd.func5
    (ChangeSpec.witness_shaped (enc := enc) (C := Tryd.checked) (os := os) (X := fun w _ => laidMetH Tryd.prog Rows.meterOrderRow.laid w) false (World.laidAll Tryd.prog os Rows.meterOrderRow.laid) #[.slice none 0 0, .int .u8 0] 8 (World.laidAll_os _ _ _)
      (World.shaped_of_ZipB (by kernel_rfl) (by kernel_rfl)) (by kernel_rfl) (by kernel_rfl) (by kernel_rfl)
      (by rw [MakeChecks.laidMetH_plain _ _ _ (by kernel_rfl)]; exact laidMet_laidAll _ (by kernel_rfl) (by kernel_rfl))) ?_
  intro W base args ds gs before hval0 hW hcnd hsz _ _
  have hval : ∀ (j : Nat) t v, Tryd.f5.params[j]? = some t → args[j]? = some v → Value.okWide Tryd.prog W .any base t v := hval0
  have hW' := hW
  obtain ⟨p, q, hA0, hV, rfl, hfz, hnd⟩ := hW
  have hA : DataW.TrodAll enc Tryd.prog W 0 (fun _ => true) true Tryd.f5.params.toList args.toList ds p := hA0
  rw [Tryd.params5] at hA hval hsz
  obtain ⟨v0, vs0, d0, ds0, p0, q0, hargs, rfl, rfl, h0, r0⟩ := trodAll_cons hA
  obtain ⟨v1, vs1, d1, ds1, p1, q1, rfl, rfl, rfl, h1, r1⟩ := trodAll_cons r0
  obtain ⟨rfl, rfl, rfl⟩ := trodAll_nil r1
  obtain rfl : args = #[v0, v1] := by cases args; simp_all
  obtain ⟨rfl, rfl⟩ := trodVars_none hV
  obtain ⟨ρ0, hp0, b0, n0, f0, rows0, s0, x0, l0, k0, vr0, ro0, sh0, z0⟩ := arg_slice tok (T := Vex.T) (t := 22) (e := 42) (d := 4) (zs := Go.Vex.Mtr.stepZ) rfl rfl rfl rfl rfl (by decide) (hval 0 22 v0 rfl rfl) h0 (fun m hm => hW'.lt m (by simp [hm])) (fun m hm => by simpa using List.all_eq_true.1 hsz m (DataW.weights_mem_each (j := 0) (t := 22) rfl rfl m hm)) (Sat.none W fun _ => ⟨0, 0, 0, 0⟩)
  obtain ⟨a1, rfl, rfl, rfl, w1⟩ := open_int Tryd.underlying5 (hval 1 5 v1 rfl rfl) h1
  refine (XCalls.true' s0 (vs := [.slc b0 n0 f0, .int .u8 a1]) ⟨_, _, rfl, vr0, ⟨_, _, rfl, rfl, rfl⟩⟩ (law_calls ro0 sh0 z0 a1 w1)).mono fun e W' ⟨he, hb⟩ => ?_
  subst he
  exact ⟨_, rfl, post_true (by kernel_rfl) hW' hb rfl (fun gs hg => by subst hg; rfl) (tb := 4) rfl Tryd.underlying4 (by decide +kernel)⟩

theorem over : Rows.meterOrderRow.holds Tryd.pinned (OpenSpec.ofChange Rows.meterOrderSpec) :=
  OpenClaim.holds_of_wide 5 Tryd.f5 rfl rfl rfl rfl rfl rfl rfl ⟨rfl, rfl, rfl, rfl, rfl⟩ rfl rfl rfl rfl rfl (by kernel_rfl) Tryd.func5 (by kernel_rfl)
    (of_decide_eq_true (by kernel_rfl)) (by unfold Func.isWrapper; first | (rw [if_pos (by decide +kernel)]; kernel_rfl) | (rw [if_neg (by decide +kernel)]; exact ⟨rfl, rfl⟩))
    (fun os started H enc _ => lifted os started H enc)

theorem proved : Rows.MeterOrderCardSaid :=
  Claim7.holds_tied_plain_at .later [] [.data, .pinned] true (true, "6f0890050433e3409460d9e1357a35ec318fe23a11d76ee342353e76d92dff2d") true over (fun _ h => by cases h) (by kernel_rfl) (fun _ h => by cases h) meterOrder_row_tie rfl ⟨rfl, rfl⟩ (by kernel_rfl) rfl
    (fun f fn hf hfn => by
      obtain rfl : f = 5 := Option.some.inj ((show Tryd.prog.funcNamed "stevedore/stevedorelaw04.MeterOrder" = some 5 by kernel_rfl).symm.trans hf) |>.symm
      obtain rfl : fn = Tryd.f5 := (Option.some.inj (Tryd.func5.symm.trans hfn)).symm
      exact ⟨by kernel_rfl, fun j t ht => by
        rw [Tryd.params5] at ht
        have hm : t ∈ [22, 5] := by simpa using Array.mem_of_getElem? ht
        have hall : ([22, 5].all fun u => !Tryd.prog.wantsStandIn u) = true := by kernel_rfl
        exact (show Tryd.prog.wantsStandIn t = false by simpa using List.all_eq_true.1 hall t hm)⟩)
    (by kernel_rfl)
#print axioms proved
end Go.Proofs.YtakkppekchofdaaDoor.meterOrder
