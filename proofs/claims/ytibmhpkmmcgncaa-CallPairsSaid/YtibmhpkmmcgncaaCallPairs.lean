/-
  CallPairs of layer 29: whatever the other ends, the draw, whether it is bound and of which kind, the law returns true and leaves the input as it was. No condition.
-/
import Derived.Test.YtibmhpkmmcgncaaVexGG
import Derived.Test.YtibmhpkmmcgncaaTab29
import Derived.Test.YtibmhpkmmcgncaaXp29
import Derived.Test.YtibmhpkmmcgncaaCpa29
import Derived.Test.YtibmhpkmmcgncaaCpb29
import Derived.Test.YtibmhpkmmcgncaaCpc29
import Derived.Test.YtibmhpkmmcgncaaCpd29
import Derived.Test.YtibmhpkmmcgncaaXta29
import Derived.Test.YtibmhpkmmcgncaaCta29
import Derived.Test.YtibmhpkmmcgncaaXtb29
import Derived.Test.YtibmhpkmmcgncaaCtb29
import Derived.Test.YtibmhpkmmcgncaaCtc29
import Derived.Test.YtibmhpkmmcgncaaCtd29
import Derived.Test.YtibmhpkmmcgncaaXth29
import Derived.Test.YtibmhpkmmcgncaaCth29
import Derived.Test.YtibmhpkmmcgncaaXti29
import Derived.Test.YtibmhpkmmcgncaaRows
import Derived.WalkKit
import Derived.ProofKit
import Derived.OpenShut
import Derived.KernelRfl
set_option linter.unusedVariables false
set_option linter.unusedSimpArgs false
namespace Go.Vex.CallPairs
open Go.Proofs
open Go.Vex.Call
open Go.Vex.Ports (PortsR Bd bindCode Quiet mayCode clashB meetB LendR lendAt freeB)

set_option maxRecDepth 100000 in
theorem works_ev : (ev Vex.T Vex.F (fun _ => []) 100000).call 17 [] h0 isT = true := by kernel_rfl

theorem works_spec {h : Hp} {K : V → Hp → Prop} (hk : ∀ h', K (.bool true) h') : XCalls Try.prog 17 [] h K :=
  (XCalls.fresh (K := fun v => v = .bool true) rfl (fun v hv => by subst hv; rfl) (XCalls.ev tok fok mixed (fun _ => []) 100000 works_ev fun _ _ hv => isT_spec hv)).mono fun v h' hv => by rw [hv.1]; exact hk h'

theorem least_nil {k : Nat} (h : Least [] k) : k = 0 := by
  cases k with
  | zero => rfl
  | succ k => exact absurd rfl (h.2 0 (by omega))

theorem least_one {f : Fi} {k : Nat} (h : Least [(((0 : Nat) : Int), f)] k) : k = 1 := by
  match k with
  | 0 => have := h.1; simp [mget] at this
  | 1 => rfl
  | k + 2 => exact absurd (by simp [mget]) (h.2 1 (by omega))

theorem TblR.os {t : Nat} {s : TS} {h : Hp} {F : List Nat} (r : TblR t s h F) : (s.S.map Sk.o).Nodup := by
  obtain ⟨mf, ms, po, G, GP, a, f, at0, _⟩ := r
  exact (apart at0.nd).OO

theorem lend0 {p draw code port : Int} {P' : List (Int × Bd)} (hp : p = 1 ∨ p = 2) (hd : 0 ≤ draw ∧ draw < 65536) (hL : LendR [] 1 ⟨p, 8, 0, false⟩ draw code port P') :
    code = 0 ∧ 32768 ≤ port ∧ port ≤ 60999 ∧ P' = [(1, ⟨p, 8, port, false⟩)] := by
  have hm : mayCode [] 1 ⟨p, 8, 0, false⟩ false = 0 := by rcases hp with rfl | rfl <;> simp [mayCode, mget]
  have hf : ∀ b : Bd, freeB [] b = true := fun b => rfl
  rcases hL with ⟨h1, _⟩ | ⟨_, i, hi, hj, h2, rfl, rfl, rfl⟩ | ⟨_, h2, _⟩
  · exact absurd hm h1
  · cases i with
    | zero => refine ⟨rfl, ?_, ?_, rfl⟩ <;> simp only [lendAt] <;> omega
    | succ i => have := hj 0 (by omega); rw [hf] at this; cases this
  · have := h2 0 (by omega); rw [hf] at this; cases this

theorem bind2 {p pip fp : Int} (h : fp ≠ 1000) : bindCode [(1, ⟨p, pip, fp, false⟩)] 2 ⟨2, 0, 1000, false⟩ = 0 := by
  simp [bindCode, mayCode, mget, clashB, meetB, h]

/-- a row that stands apart stays -/
theorem keepR {g g' : Hp} {F F' : List Nat} {j : Nat} {o : O} (u : Upd g g' F F') (hn : j < g.next) (hF : j ∉ F) (hg : g.get j = some o) : g'.get j = some o := (u.same _ hn hF).trans hg
theorem keepF {g g' : Hp} {F F' : List Nat} {j : Nat} (u : Upd g g' F F') (hn : j < g.next) (hF : j ∉ F) : j ∉ F' := fun hm => (u.new _ hm).elim hF (fun h => by omega)

set_option maxRecDepth 20000 in
theorem law_calls (tip : Int) (wi : IntKind.u32.min ≤ tip ∧ tip ≤ IntKind.u32.max) (tport : Int) (wp : IntKind.u16.min ≤ tport ∧ tport ≤ IntKind.u16.max) (oip : Int) (wi2 : IntKind.u32.min ≤ oip ∧ oip ≤ IntKind.u32.max) (oport : Int) (wp2 : IntKind.u16.min ≤ oport ∧ oport ≤ IntKind.u16.max)
    (draw : Int) (wd : (Lit.int .u16 draw).wf = true) (bnd udp : Bool) {h : Hp} :
    XCalls Try.prog 4 [.agg [.int .u32 tip, .int .u16 tport], .agg [.int .u32 oip, .int .u16 oport], .int .u16 draw, .bool bnd, .bool udp] h fun v _ => v = .bool true := by
  refine XCalls.ofWf fun hw => ?_
  refine XCalls.cps fun K hK => ?_
  have KT : ∀ h', K (.bool true) h' := fun h' => hK _ _ rfl
  have hdr := lit_bnd wd
  simp [IntKind.min, IntKind.max, IntKind.signed, IntKind.bits] at wi wp wi2 wp2 hdr
  have hdr' : 0 ≤ draw ∧ draw < 65536 := by omega
  apply x4; unfold X4
  rintro g1 rfl g2 rfl
  have q1 : Quiet h (h.alloc (.row [.int .u32 tip, .int .u16 tport] 1 false)) := Ports.Quiet.alloc hw _
  have q2 := q1.trans (Ports.Quiet.alloc q1.wf (.row [.int .u32 oip, .int .u16 oport] 1 false))
  have e1 : (h.alloc (.row [.int .u32 tip, .int .u16 tport] 1 false)).next = h.next + 1 := rfl
  have to2 : ((h.alloc (.row [.int .u32 tip, .int .u16 tport] 1 false)).alloc (.row [.int .u32 oip, .int .u16 oport] 1 false)).get h.next = some (.row [.int .u32 tip, .int .u16 tport] 1 false) := by rw [Hp.get_alloc_ne (by rw [e1]; omega)]; exact Hp.get_alloc_self
  have ot2 : ((h.alloc (.row [.int .u32 tip, .int .u16 tport] 1 false)).alloc (.row [.int .u32 oip, .int .u16 oport] 1 false)).get (h.next + 1) = some (.row [.int .u32 oip, .int .u16 oport] 1 false) := by rw [← e1]; exact Hp.get_alloc_self
  have n2 : ((h.alloc (.row [.int .u32 tip, .int .u16 tport] 1 false)).alloc (.row [.int .u32 oip, .int .u16 oport] 1 false)).next = h.next + 2 := rfl
  simp only [e1]
  generalize (h.alloc (.row [.int .u32 tip, .int .u16 tport] 1 false)).alloc (.row [.int .u32 oip, .int .u16 oport] 1 false) = g2 at q2 to2 ot2 n2
  refine ⟨tip, by rw [Hp.ld_of to2]; rfl, ?_⟩
  by_cases h1 : tip = 0
  · have b : (tip == 0) = true := by simp [h1]
    simp only [b, cond_true]
    exact works_spec fun _ => ⟨_, rfl, KT _⟩
  have b1 : (tip == 0) = false := by simp [h1]
  simp only [b1, cond_false]
  refine ⟨tport, by rw [Hp.ld_of to2]; rfl, ?_⟩
  by_cases h2 : tport = 0
  · have b : (tport == 0) = true := by simp [h2]
    simp only [b, cond_true]
    exact works_spec fun _ => ⟨_, rfl, KT _⟩
  have b2 : (tport == 0) = false := by simp [h2]
  simp only [b2, cond_false]
  refine ⟨oip, by rw [Hp.ld_of ot2]; rfl, ?_⟩
  by_cases h3 : oip = 0
  · have b : (oip == 0) = true := by simp [h3]
    simp only [b, cond_true]
    exact works_spec fun _ => ⟨_, rfl, KT _⟩
  have b3 : (oip == 0) = false := by simp [h3]
  simp only [b3, cond_false]
  refine ⟨oport, by rw [Hp.ld_of ot2]; rfl, ?_⟩
  by_cases h4 : oport = 0
  · have b : (oport == 0) = true := by simp [h4]
    simp only [b, cond_true]
    exact works_spec fun _ => ⟨_, rfl, KT _⟩
  have b4 : (oport == 0) = false := by simp [h4]
  simp only [b4, cond_false]
  rintro g3 rfl
  have q3 : Quiet g2 (g2.alloc (.row [.int .u32 7, .int .u32 8] 1 false)) := Ports.Quiet.alloc q2.wf _
  have n3 : (g2.alloc (.row [.int .u32 7, .int .u32 8] 1 false)).next = h.next + 3 := by rw [Hp.alloc_next]; omega
  refine (newt_spec (most := 9) (xs := [7, 8]) (fl := true) q3.wf (by omega) (by simp) (by simp) Hp.get_alloc_self).mono ?_
  rintro _ g4 ⟨t, F4, rfl, r4, q4, hF4⟩
  rw [n3] at hF4
  have to4 := (q4.same h.next (by omega)).trans ((q3.same h.next (by omega)).trans to2)
  have ot4 := (q4.same (h.next + 1) (by omega)).trans ((q3.same (h.next + 1) (by omega)).trans ot2)
  have l4 := q4.le
  refine ⟨_, _, rfl, ?_⟩
  simp only [bne_self_eq_false, cond_false, Option.isNone_some]
  refine ⟨fun vs g => vs = [.int .u8 (if udp then 1 else 2)] ∧ g = g4, ?_, ?_⟩
  · cases udp
    · exact ⟨(by trivial), rfl, rfl⟩
    · exact ⟨(by trivial), rfl, rfl⟩
  rintro bs p g ⟨e, rfl⟩
  have hpu : p = if udp then 1 else 2 := by simpa using e
  have hp : p = 1 ∨ p = 2 := by rw [hpu]; cases udp <;> simp
  clear e
  have nT4 : h.next ∉ F4 := fun hm => by have := hF4 _ hm; omega
  have nO4 : h.next + 1 ∉ F4 := fun hm => by have := hF4 _ hm; omega
  refine (socket_spec (proto := p) q4.wf r4 hp (by simp) (by simp) rfl).mono ?_
  rintro v g5 ⟨wf5, F5, u5, hv⟩
  rw [if_neg (by simp)] at hv
  obtain ⟨k, o, rfl, hk, r5⟩ := hv
  obtain rfl := least_nil hk
  simp only [List.nil_append, Int.zero_add] at r5
  have to5 := keepR u5 (by omega) nT4 to4
  have ot5 := keepR u5 (by omega) nO4 ot4
  have nT := keepF u5 (by omega) nT4
  have nO := keepF u5 (by omega) nO4
  have l5 := u5.le
  refine ⟨_, _, _, rfl, ?_⟩
  -- whether it is bound
  refine ⟨fun vs g => ∃ (d : Dk) (P : List (Int × Bd)), ((bnd = true ∧ d = { dk0 p with st := 1, b := ⟨p, 0, 99, false⟩ } ∧ P = [(1, ⟨p, 0, 99, false⟩)]) ∨ (bnd = false ∧ d = dk0 p ∧ P = [])) ∧ TblR t ⟨9, [7, 8], [(((0 : Nat) : Int), ⟨1, p, 1, false⟩)], [⟨1, o, d⟩], P, 1⟩ g F5 ∧
      g.get h.next = some (.row [.int .u32 tip, .int .u16 tport] 1 false) ∧ g.get (h.next + 1) = some (.row [.int .u32 oip, .int .u16 oport] 1 false) ∧ h.next + 3 ≤ g.next ∧ g.wf, ?_, ?_⟩
  · cases bnd with
    | false => exact ⟨(by trivial), _, _, .inr ⟨rfl, rfl, rfl⟩, r5, to5, ot5, by omega, wf5⟩
    | true =>
      refine (bindt_spec (fd := ((0 : Nat) : Int)) (ip := 0) (port := 99) wf5 r5 (by simp)).mono ?_
      rintro v g6 ⟨u6, wf6, hv⟩
      rw [if_pos (by simp [bindA, askC, mget, sfind, firstCode, cl41, cl42, dk0])] at hv
      obtain ⟨f1, x, hm, hsf, rfl, hv⟩ := hv
      have ef : f1 = ⟨1, p, 1, false⟩ := by simp [mget] at hm; exact hm.symm
      subst ef
      have ex : x = ⟨1, o, dk0 p⟩ := by simp [sfind] at hsf; exact hsf.symm
      subst ex
      have eb : bound (dk0 p) 0 99 = ⟨p, 0, 99, false⟩ := rfl
      have ec : bindCode [] 1 (⟨p, 0, 99, false⟩ : Bd) = 0 := by rcases hp with rfl | rfl <;> decide
      simp only [eb, ec, if_true] at hv
      have es : supd [⟨1, o, dk0 p⟩] o { dk0 p with st := 1, b := ⟨p, 0, 99, false⟩ } = [⟨1, o, { dk0 p with st := 1, b := ⟨p, 0, 99, false⟩ }⟩] := by simp [supd]
      rw [es] at hv
      simp only [eb, ec]
      refine ⟨_, rfl, ?_⟩
      simp only [bne_self_eq_false, cond_false]
      have l6 := u6.le
      exact ⟨(by trivial), _, _, .inl ⟨(by trivial), rfl, rfl⟩, hv, keepR u6 (by omega) nT to5, keepR u6 (by omega) nO ot5, by omega, wf6⟩
  rintro bs2 g6 ⟨d, P, hor, r6, to6, ot6, l6, wf6⟩
  refine ⟨tip, tport, by rw [Hp.lda_of to6 (Nat.le_of_ble_eq_true rfl)]; rfl, ?_⟩
  have hst : d.st ≠ 2 ∧ d.st ≠ 3 ∧ d.proto = p := by rcases hor with ⟨_, rfl, _⟩ | ⟨_, rfl, _⟩ <;> simp [dk0]
  refine (connect_spec (fd := ((0 : Nat) : Int)) (own := 8) (tip := tip) (tport := tport) (draw := draw) wf6 r6 (by simp) hdr').mono ?_
  rintro v g7 ⟨u7, wf7, hv⟩
  have htp : 0 < tip ∧ 0 < tport := by omega
  rw [if_pos (by simp only [connA, askC, cl47, cl48, cl49, firstCode, htp]; simp [mget, sfind, hst])] at hv
  obtain ⟨f1, x, hm, hsf, hv⟩ := hv
  have ef : f1 = ⟨1, p, 1, false⟩ := by simp [mget] at hm; exact hm.symm
  subst ef
  have ex : x = ⟨1, o, d⟩ := by simp [sfind] at hsf; exact hsf.symm
  subst ex
  -- what it has come to
  obtain ⟨fp, d2, pip, ev, hfp, hd2, r7⟩ : ∃ (fp : Int) (d2 : Dk) (pip : Int), v = .tup [.agg [.int .u32 8, .int .u16 fp, .int .u32 tip, .int .u16 tport], .int .i64 0] ∧ (if bnd then fp = 99 else 32768 ≤ fp ∧ fp ≤ 60999) ∧
      (d2.proto = p ∧ d2.st = 3 ∧ (d2.b.ip = 0 ∨ d2.b.ip = 8) ∧ d2.b.port = fp ∧ d2.fip = 8 ∧ d2.fport = fp ∧ d2.tip = tip ∧ d2.tport = tport) ∧
      TblR t ⟨9, [7, 8], [(((0 : Nat) : Int), ⟨1, p, 1, false⟩)], [⟨1, o, d2⟩], [(1, ⟨p, pip, fp, false⟩)], 1⟩ g7 F5 := by
    rcases hor with ⟨hb, rfl, rfl⟩ | ⟨hb, rfl, rfl⟩
    · rw [if_neg (by simp)] at hv
      obtain ⟨rfl, r7⟩ := hv
      have es : supd [(⟨1, o, { dk0 p with st := 1, b := ⟨p, 0, 99, false⟩ }⟩ : Sk)] o (conn { dk0 p with st := 1, b := ⟨p, 0, 99, false⟩ } 8 tip tport) = [⟨1, o, conn { dk0 p with st := 1, b := ⟨p, 0, 99, false⟩ } 8 tip tport⟩] := by simp [supd]
      simp only [es] at r7
      exact ⟨99, _, 0, rfl, by rw [hb]; rfl, ⟨rfl, rfl, .inl rfl, rfl, rfl, rfl, rfl, rfl⟩, r7⟩
    · rw [if_pos (by rfl)] at hv
      obtain ⟨code, port, P', hL, hv⟩ := hv
      obtain ⟨rfl, p1, p2, rfl⟩ := lend0 hp hdr' hL
      rw [if_pos rfl] at hv
      obtain ⟨rfl, r7⟩ := hv
      have es : ∀ d', supd [(⟨1, o, dk0 p⟩ : Sk)] o d' = [⟨1, o, d'⟩] := fun d' => by simp [supd]
      simp only [es] at r7
      exact ⟨port, _, 8, rfl, by rw [hb]; exact ⟨p1, p2⟩, ⟨rfl, rfl, .inr rfl, rfl, rfl, rfl, rfl, rfl⟩, r7⟩
  subst ev
  obtain ⟨dp, ds, dbi, dbp, dfi, dfp, dti, dtp⟩ := hd2
  have to7 := keepR u7 (by omega) nT to6
  have ot7 := keepR u7 (by omega) nO ot6
  have l7 := u7.le
  refine ⟨8, fp, tip, tport, 0, rfl, ?_⟩
  rintro g8 rfl
  refine ⟨_, Hp.st_of Hp.get_alloc_self (Nat.le_of_ble_eq_true rfl), ?_⟩
  generalize hg9 : (g7.alloc _).set g7.next _ = g9
  have pr9 : g9.get g7.next = some (.row [.int .u32 8, .int .u16 fp, .int .u32 tip, .int .u16 tport] 1 false) := by rw [← hg9]; exact Hp.get_set_self
  have q9 : Quiet g7 g9 := ⟨fun j hj => by rw [← hg9, Hp.get_set_ne (by omega), Hp.get_alloc_ne (by omega)], by rw [← hg9]; simp only [Hp.set_next, Hp.alloc_next]; omega, by rw [← hg9]; exact wf7.alloc.set (by simp [Hp.alloc_next])⟩
  have n9 : g9.next = g7.next + 1 := by rw [← hg9]; rfl
  clear hg9
  have to9 := (q9.same h.next (by omega)).trans to7
  have ot9 := (q9.same (h.next + 1) (by omega)).trans ot7
  have r9 := (TblR.rep _ _).stay wf7 r7 q9.same
  have hF7 : g7.next ∉ F5 := fun hm => by have := (TblR.rep _ _).lt wf7 r7 hm; omega
  refine ⟨fun vs g => g = g9, ?_, ?_⟩
  · simp only [bne_self_eq_false, cond_false]
    refine ⟨tip, tport, by rw [Hp.lda_of pr9 (Nat.le_of_ble_eq_true rfl)]; rfl, tip, tport, by rw [Hp.lda_of to9 (Nat.le_of_ble_eq_true rfl)]; rfl, ?_⟩
    simp only [beq_self_eq_true, Bool.and_self, Bool.not_true, cond_false]
    refine ⟨8, by rw [Hp.ld_of pr9]; rfl, ?_⟩
    simp only [bne_self_eq_false, cond_false]
    cases bnd with
    | true =>
      simp only [if_true] at hfp
      subst hfp
      simp only [cond_true, Bool.not_true, cond_false]
      refine ⟨99, by rw [Hp.ld_of pr9]; rfl, ?_⟩
      simp only [bne_self_eq_false, cond_false]
      exact ⟨(by trivial), (by trivial)⟩
    | false =>
      simp only [Bool.false_eq_true, if_false] at hfp
      simp only [cond_false, Bool.not_false, cond_true]
      have c1 : ltI fp 32768 = false := by rw [ltI_eq, decide_eq_false_iff_not]; omega
      have c2 : ltI 60999 fp = false := by rw [ltI_eq, decide_eq_false_iff_not]; omega
      refine ⟨fp, by rw [Hp.ld_of pr9]; rfl, ?_⟩
      simp only [c1, cond_false]
      refine ⟨fp, by rw [Hp.ld_of pr9]; rfl, ?_⟩
      simp only [c2, cond_false]
      exact ⟨(by trivial), (by trivial)⟩
  rintro bs3 g10 rfl
  refine (desk_spec (id := 1) q9.wf r9).mono ?_
  rintro _ g11 ⟨rfl, q11⟩
  have esf : sfind [(⟨1, o, d2⟩ : Sk)] 1 = some ⟨1, o, d2⟩ := by simp [sfind]
  simp only [esf, Option.map_some, Option.getD_some, Option.isSome_some]
  refine ⟨d2.proto, d2.st, d2.b.kind, d2.b.ip, d2.b.port, d2.b.share, d2.fip, d2.fport, d2.tip, d2.tport, true, rfl, ?_⟩
  rintro g12 rfl
  refine ⟨_, Hp.st_of Hp.get_alloc_self (Nat.le_of_ble_eq_true rfl), ?_⟩
  generalize hg13 : (g11.alloc _).set g11.next _ = g13
  have dr13 : g13.get g11.next = some (.row [.int .u8 d2.proto, .int .u8 d2.st, .int .u8 d2.b.kind, .int .u32 d2.b.ip, .int .u16 d2.b.port, .bool d2.b.share, .int .u32 d2.fip, .int .u16 d2.fport, .int .u32 d2.tip, .int .u16 d2.tport] 1 false) := by rw [← hg13]; exact Hp.get_set_self
  have q13 : Quiet g11 g13 := ⟨fun j hj => by rw [← hg13, Hp.get_set_ne (by omega), Hp.get_alloc_ne (by omega)], by rw [← hg13]; simp only [Hp.set_next, Hp.alloc_next]; omega, by rw [← hg13]; exact q11.wf.alloc.set (by simp [Hp.alloc_next])⟩
  clear hg13
  have q913 := q11.trans q13
  have l913 := q913.le
  have pr13 := (q913.same g7.next (by omega)).trans pr9
  have to13 := (q913.same h.next (by omega)).trans to9
  have ot13 := (q913.same (h.next + 1) (by omega)).trans ot9
  have r13 := (TblR.rep _ _).stay q9.wf r9 q913.same
  simp only [Bool.not_true, cond_false]
  refine ⟨d2.fip, d2.fport, d2.tip, d2.tport, by rw [Hp.lda_of dr13 (Nat.le_of_ble_eq_true rfl)]; rfl, 8, fp, tip, tport, by rw [Hp.lda_of pr13 (Nat.le_of_ble_eq_true rfl)]; rfl, ?_⟩
  rw [dfi, dfp, dti, dtp]
  simp only [beq_self_eq_true, Bool.and_self, Bool.not_true, cond_false]
  refine ⟨d2.st, by rw [Hp.ld_of dr13]; rfl, ?_⟩
  rw [ds]
  simp only [bne_self_eq_false, cond_false]
  refine ⟨oip, oport, by rw [Hp.lda_of ot13 (Nat.le_of_ble_eq_true rfl)]; rfl, ?_⟩
  -- the second connect
  have hop : 0 < oip ∧ 0 < oport := by omega
  refine (connect_spec (fd := ((0 : Nat) : Int)) (own := 8) (tip := oip) (tport := oport) (draw := draw) q913.wf r13 (by simp) hdr').mono ?_
  rintro v g14 ⟨u14, wf14, hv⟩
  have to14 := keepR u14 (by omega) nT to13
  have ot14 := keepR u14 (by omega) nO ot13
  have pr14 := keepR u14 (by omega) hF7 pr13
  have l14 := u14.le
  obtain ⟨q3', q4', q5', q6', cd, d3, ev, hcd, hd3, r14⟩ : ∃ (q3' q4' q5' q6' cd : Int) (d3 : Dk), v = .tup [.agg [.int .u32 q3', .int .u16 q4', .int .u32 q5', .int .u16 q6'], .int .i64 cd] ∧ (if udp then cd = 0 ∧ q3' = 8 ∧ q4' = fp ∧ q5' = oip ∧ q6' = oport else cd = 292) ∧ (d3.st = 3 ∧ d3.proto = p) ∧
      TblR t ⟨9, [7, 8], [(((0 : Nat) : Int), ⟨1, p, 1, false⟩)], [⟨1, o, d3⟩], [(1, ⟨p, pip, fp, false⟩)], 1⟩ g14 F5 := by
    cases udp with
    | true =>
      simp only [if_true] at hpu
      rw [if_pos (by simp only [connA, askC, cl47, cl48, cl49, firstCode, hop]; simp [mget, sfind, ds, dp, hpu])] at hv
      obtain ⟨f1, x, hm, hsf, hv⟩ := hv
      have ef : f1 = ⟨1, p, 1, false⟩ := by simp [mget] at hm; exact hm.symm
      subst ef
      have ex : x = ⟨1, o, d2⟩ := by simp [sfind] at hsf; exact hsf.symm
      subst ex
      rw [if_neg (by simp [ds])] at hv
      obtain ⟨rfl, r14⟩ := hv
      have es : ∀ d', supd [(⟨1, o, d2⟩ : Sk)] o d' = [⟨1, o, d'⟩] := fun d' => by simp [supd]
      simp only [es] at r14
      refine ⟨_, _, _, _, 0, conn d2 8 oip oport, rfl, ?_, ⟨rfl, dp⟩, r14⟩
      simp only [if_true, conn, dbp, true_and, and_true]
      rcases dbi with e | e <;> simp [e]
    | false =>
      simp only [Bool.false_eq_true, if_false] at hpu
      have ec : connA ⟨9, [7, 8], [(((0 : Nat) : Int), ⟨1, p, 1, false⟩)], [⟨1, o, d2⟩], [(1, ⟨p, pip, fp, false⟩)], 1⟩ ((0 : Nat) : Int) 8 oip oport = 292 := by simp only [connA, askC, cl47, cl48, cl49, firstCode, hop]; simp [mget, sfind, ds, dp, hpu]
      rw [ec, if_neg (by omega)] at hv
      obtain ⟨rfl, r14⟩ := hv
      exact ⟨0, 0, 0, 0, 292, d2, rfl, by simp, ⟨ds, dp⟩, r14⟩
  subst ev
  obtain ⟨d3s, d3p⟩ := hd3
  refine ⟨q3', q4', q5', q6', cd, rfl, ?_⟩
  rintro g15 rfl
  refine ⟨_, Hp.st_of Hp.get_alloc_self (Nat.le_of_ble_eq_true rfl), ?_⟩
  generalize hg16 : (g14.alloc _).set g14.next _ = g16
  have qr16 : g16.get g14.next = some (.row [.int .u32 q3', .int .u16 q4', .int .u32 q5', .int .u16 q6'] 1 false) := by rw [← hg16]; exact Hp.get_set_self
  have q16 : Quiet g14 g16 := ⟨fun j hj => by rw [← hg16, Hp.get_set_ne (by omega), Hp.get_alloc_ne (by omega)], by rw [← hg16]; simp only [Hp.set_next, Hp.alloc_next]; omega, by rw [← hg16]; exact wf14.alloc.set (by simp [Hp.alloc_next])⟩
  have n16 : g16.next = g14.next + 1 := by rw [← hg16]; rfl
  clear hg16
  have to16 := (q16.same h.next (by omega)).trans to14
  have ot16 := (q16.same (h.next + 1) (by omega)).trans ot14
  have pr16 := (q16.same g7.next (by omega)).trans pr14
  have r16 := (TblR.rep _ _).stay wf14 r14 q16.same
  refine ⟨fun vs g => TblR t ⟨9, [7, 8], [(((0 : Nat) : Int), ⟨1, p, 1, false⟩)], [⟨1, o, d3⟩], [(1, ⟨p, pip, fp, false⟩)], 1⟩ g F5 ∧ g.get h.next = some (.row [.int .u32 tip, .int .u16 tport] 1 false) ∧ h.next + 3 ≤ g.next ∧ g.wf, ?_, ?_⟩
  · cases udp with
    | true =>
      simp only [if_true] at hcd
      obtain ⟨rfl, rfl, rfl, rfl, rfl⟩ := hcd
      simp only [cond_true, bne_self_eq_false, cond_false, Bool.not_true]
      refine ⟨q5', q6', by rw [Hp.lda_of qr16 (Nat.le_of_ble_eq_true rfl)]; rfl, q5', q6', by rw [Hp.lda_of ot16 (Nat.le_of_ble_eq_true rfl)]; rfl, ?_⟩
      simp only [beq_self_eq_true, Bool.and_self, Bool.not_true, cond_false]
      refine ⟨8, q4', by rw [Hp.lda_of qr16 (Nat.le_of_ble_eq_true rfl)]; rfl, 8, q4', by rw [Hp.lda_of pr16 (Nat.le_of_ble_eq_true rfl)]; rfl, ?_⟩
      simp only [beq_self_eq_true, Bool.and_self, Bool.not_true, cond_false]
      exact ⟨(by trivial), r16, to16, by omega, q16.wf⟩
    | false =>
      simp only [Bool.false_eq_true, if_false] at hcd hpu
      subst hcd
      simp only [cond_false, Bool.not_false, cond_true, bne_self_eq_false]
      have el : askC ⟨9, [7, 8], [(((0 : Nat) : Int), ⟨1, p, 1, false⟩)], [⟨1, o, d3⟩], [(1, ⟨p, pip, fp, false⟩)], 1⟩ ((0 : Nat) : Int) [cl44, cl45, cl46] = 292 := by simp [askC, mget, sfind, firstCode, cl44, cl45, d3s, d3p, hpu]
      refine (listen_spec (fd := ((0 : Nat) : Int)) q16.wf r16).mono ?_
      rintro _ g17 ⟨rfl, u17, wf17, hv⟩
      rw [el, if_neg (by omega)] at hv
      rw [el]
      refine ⟨_, rfl, ?_⟩
      simp only [bne_self_eq_false, cond_false]
      have l17 := u17.le
      exact ⟨(by trivial), hv, keepR u17 (by omega) nT to16, by omega, wf17⟩
  rintro bs4 g17 ⟨r17, to17, l17, wf17⟩
  -- one that listens
  refine (socket_spec (proto := 2) wf17 r17 (.inr rfl) (by simp) (by simp) (by simp [sfind])).mono ?_
  rintro v g18 ⟨wf18, F18, u18, hv⟩
  rw [if_neg (by simp)] at hv
  obtain ⟨k, o2, rfl, hk, r18⟩ := hv
  obtain rfl := least_one hk
  simp only [List.cons_append, List.nil_append, Int.reduceAdd] at r18
  have hoo := TblR.os r18
  have hne : ¬ o = o2 := by simpa using hoo
  have hne' : ¬ o2 = o := fun e => hne e.symm
  have to18 := keepR u18 (by omega) nT to17
  have nT18 := keepF u18 (by omega) nT
  have l18 := u18.le
  refine ⟨_, _, _, rfl, ?_⟩
  refine (bindt_spec (fd := ((1 : Nat) : Int)) (ip := 0) (port := 1000) wf18 r18 (by simp)).mono ?_
  rintro v g19 ⟨u19, wf19, hv⟩
  rw [if_pos (by simp [bindA, askC, mget, sfind, firstCode, cl41, cl42, dk0])] at hv
  obtain ⟨f1, x, hm, hsf, rfl, hv⟩ := hv
  have ef : f1 = ⟨1, 2, 2, false⟩ := by simp [mget] at hm; exact hm.symm
  subst ef
  have ex : x = ⟨2, o2, dk0 2⟩ := by simp [sfind] at hsf; exact hsf.symm
  subst ex
  have eb : bound (dk0 2) 0 1000 = ⟨2, 0, 1000, false⟩ := rfl
  have hfp1 : fp ≠ 1000 := by cases bnd <;> simp at hfp <;> omega
  simp only [eb, bind2 hfp1, if_true] at hv
  have es : supd [⟨1, o, d3⟩, ⟨2, o2, dk0 2⟩] o2 { dk0 2 with st := 1, b := ⟨2, 0, 1000, false⟩ } = [⟨1, o, d3⟩, ⟨2, o2, { dk0 2 with st := 1, b := ⟨2, 0, 1000, false⟩ }⟩] := by simp [supd, hne]
  rw [es] at hv
  have to19 := keepR u19 (by omega) nT18 to18
  have l19 := u19.le
  refine ⟨_, rfl, ?_⟩
  refine (listen_spec (fd := ((1 : Nat) : Int)) wf19 hv).mono ?_
  rintro _ g20 ⟨rfl, u20, wf20, hv⟩
  rw [if_pos (by simp [askC, mget, sfind, firstCode, cl44, cl45, cl46, dk0])] at hv
  obtain ⟨f1, x, hm, hsf, r20⟩ := hv
  have ef : f1 = ⟨1, 2, 2, false⟩ := by simp [mget] at hm; exact hm.symm
  subst ef
  have ex : x = ⟨2, o2, { dk0 2 with st := 1, b := ⟨2, 0, 1000, false⟩ }⟩ := by simp [sfind] at hsf; exact hsf.symm
  subst ex
  have es : supd [⟨1, o, d3⟩, ⟨2, o2, { dk0 2 with st := 1, b := ⟨2, 0, 1000, false⟩ }⟩] o2 { dk0 2 with st := 2, b := ⟨2, 0, 1000, false⟩ } = [⟨1, o, d3⟩, ⟨2, o2, { dk0 2 with st := 2, b := ⟨2, 0, 1000, false⟩ }⟩] := by simp [supd, hne]
  simp only [es] at r20
  have to20 := keepR u20 (by omega) nT18 to19
  have l20 := u20.le
  refine ⟨_, rfl, tip, tport, by rw [Hp.lda_of to20 (Nat.le_of_ble_eq_true rfl)]; rfl, ?_⟩
  refine (connect_spec (fd := ((1 : Nat) : Int)) (own := 8) (tip := tip) (tport := tport) (draw := draw) wf20 r20 (by simp) hdr').mono ?_
  rintro v g21 ⟨u21, wf21, hv⟩
  rw [if_neg (by simp only [connA, askC, cl47, cl48, cl49, firstCode, htp]; simp [mget, sfind])] at hv
  obtain ⟨rfl, r21⟩ := hv
  have ec : connA ⟨9, [7, 8], [(((0 : Nat) : Int), ⟨1, p, 1, false⟩), (((1 : Nat) : Int), ⟨1, 2, 2, false⟩)], [⟨1, o, d3⟩, ⟨2, o2, { dk0 2 with st := 2, b := ⟨2, 0, 1000, false⟩ }⟩], [(1, ⟨p, pip, fp, false⟩), (2, ⟨2, 0, 1000, false⟩)], 2⟩ ((1 : Nat) : Int) 8 tip tport = 3 := by
    simp only [connA, askC, cl47, cl48, cl49, firstCode, htp]; simp [mget, sfind]
  have to21 := keepR u21 (by omega) nT18 to20
  have l21 := u21.le
  refine ⟨0, 0, 0, 0, _, rfl, ?_⟩
  rintro g22 rfl
  refine ⟨_, Hp.st_of Hp.get_alloc_self (Nat.le_of_ble_eq_true rfl), ?_⟩
  generalize hg23 : (g21.alloc _).set g21.next _ = g23
  have q23 : Quiet g21 g23 := ⟨fun j hj => by rw [← hg23, Hp.get_set_ne (by omega), Hp.get_alloc_ne (by omega)], by rw [← hg23]; simp only [Hp.set_next, Hp.alloc_next]; omega, by rw [← hg23]; exact wf21.alloc.set (by simp [Hp.alloc_next])⟩
  clear hg23
  have to23 := (q23.same h.next (by omega)).trans to21
  have r23 := (TblR.rep _ _).stay wf21 r21 q23.same
  refine ⟨tip, tport, by rw [Hp.lda_of to23 (Nat.le_of_ble_eq_true rfl)]; rfl, ?_⟩
  refine (connect_spec (fd := ((1 : Nat) : Int)) (own := 9) (tip := tip) (tport := tport) (draw := draw) q23.wf r23 (by simp) hdr').mono ?_
  rintro v g24 ⟨u24, wf24, hv⟩
  rw [if_neg (by simp only [connA, askC, cl47, cl48, cl49, firstCode]; simp [mget, sfind])] at hv
  obtain ⟨rfl, r24⟩ := hv
  refine ⟨0, 0, 0, 0, _, rfl, ?_⟩
  rintro g25 rfl
  refine ⟨_, Hp.st_of Hp.get_alloc_self (Nat.le_of_ble_eq_true rfl), ?_⟩
  have ed : connA ⟨9, [7, 8], [(((0 : Nat) : Int), ⟨1, p, 1, false⟩), (((1 : Nat) : Int), ⟨1, 2, 2, false⟩)], [⟨1, o, d3⟩, ⟨2, o2, { dk0 2 with st := 2, b := ⟨2, 0, 1000, false⟩ }⟩], [(1, ⟨p, pip, fp, false⟩), (2, ⟨2, 0, 1000, false⟩)], 2⟩ ((1 : Nat) : Int) 9 tip tport = 2 := by
    simp only [connA, askC, cl47, cl48, cl49, firstCode]; simp [mget, sfind]
  simp only [List.cons_append, List.nil_append] at *
  rw [ec, ed]
  simp only [beq_self_eq_true, cond_true]
  exact works_spec fun _ => ⟨_, rfl, KT _⟩
end Go.Vex.CallPairs

namespace Go.Proofs.Ytibmhpkmmcgncaa.callPairs
open Go.ChangeShapes Go.WideShapes Go.ChangeAt Go.RowKit Go.Vex Go.Vex.CallPairs
open Go.ChangeMaps (open_string shut_string)

theorem own : ownKnob Try.prog.godebug = none := by kernel_rfl

set_option maxRecDepth 100000 in
theorem lifted (os : Os) (started : os.Started) (H : Type) (enc : TypeId × Value → H) :
    ReturnsInHanded {} Try.checked os 4 .any (Rows.callPairsSpec.pre6 enc Try.prog Try.f4 Rows.callPairsRow.domain false) (Rows.callPairsSpec.post enc Try.prog Try.f4 false true false false) := by
  refine returnsInHanded_of_change_sized (C := Try.checked) own started (by kernel_rfl) Try.func4
    (ChangeSpec.witness6 (enc := enc) (C := Try.checked) false ⟨#[], #[.agg #[.int .u32 0, .int .u16 0], .agg #[.int .u32 0, .int .u16 0], .int .u16 0, .bool false, .bool false], []⟩ 8 (by kernel_rfl) (by kernel_rfl) (by kernel_rfl) (by kernel_rfl)) ?_
  intro W base args ds gs before hval0 hW hcnd hsz _
  have hval : ∀ (j : Nat) t v, Try.f4.params[j]? = some t → args[j]? = some v → Value.okWide Try.prog W .any base t v := hval0
  have hW' := hW
  obtain ⟨p, q, hA0, hV, rfl, hfz, hnd⟩ := hW
  have hA : DataW.TrodAll enc Try.prog W 0 (fun _ => true) true Try.f4.params.toList args.toList ds p := hA0
  rw [Try.params4] at hA hval hsz
  obtain ⟨v0, vs0, d0, ds0, p0, q0, hargs, rfl, rfl, h0, r0⟩ := trodAll_cons hA
  obtain ⟨v1, vs1, d1, ds1, p1, q1, rfl, rfl, rfl, h1, r1⟩ := trodAll_cons r0
  obtain ⟨v2, vs2, d2, ds2, p2, q2, rfl, rfl, rfl, h2, r2⟩ := trodAll_cons r1
  obtain ⟨v3, vs3, d3, ds3, p3, q3, rfl, rfl, rfl, h3, r3⟩ := trodAll_cons r2
  obtain ⟨v4, vs4, d4, ds4, p4, q4, rfl, rfl, rfl, h4, r4⟩ := trodAll_cons r3
  obtain ⟨rfl, rfl, rfl⟩ := trodAll_nil r4
  obtain rfl : args = #[v0, v1, v2, v3, v4] := by cases args; simp_all
  obtain ⟨rfl, rfl⟩ := trodVars_none hV
  obtain ⟨cs0, rfl, hsz0, hc0⟩ := open_flat Try.underlying25 (ts := [22, 23]) (by kernel_rfl) (by kernel_rfl) (hval 0 25 v0 rfl rfl)
  obtain ⟨x0_0, hx0_0, ok0_0⟩ := hc0 0 22 rfl
  obtain ⟨a0_0, rfl, b0_0⟩ := cell_intB Try.underlying22 ok0_0
  obtain ⟨x0_1, hx0_1, ok0_1⟩ := hc0 1 23 rfl
  obtain ⟨a0_1, rfl, b0_1⟩ := cell_intB Try.underlying23 ok0_1
  obtain rfl := arr_of (l := [.int .u32 a0_0, .int .u16 a0_1]) hsz0 (fun j x hj => by
    match j, hj with
    | 0, hj => cases hj; exact hx0_0
    | 1, hj => cases hj; exact hx0_1
    | j + 2, hj => simp at hj)
  obtain ⟨cs1, rfl, hsz1, hc1⟩ := open_flat Try.underlying25 (ts := [22, 23]) (by kernel_rfl) (by kernel_rfl) (hval 1 25 v1 rfl rfl)
  obtain ⟨x1_0, hx1_0, ok1_0⟩ := hc1 0 22 rfl
  obtain ⟨a1_0, rfl, b1_0⟩ := cell_intB Try.underlying22 ok1_0
  obtain ⟨x1_1, hx1_1, ok1_1⟩ := hc1 1 23 rfl
  obtain ⟨a1_1, rfl, b1_1⟩ := cell_intB Try.underlying23 ok1_1
  obtain rfl := arr_of (l := [.int .u32 a1_0, .int .u16 a1_1]) hsz1 (fun j x hj => by
    match j, hj with
    | 0, hj => cases hj; exact hx1_0
    | 1, hj => cases hj; exact hx1_1
    | j + 2, hj => simp at hj)
  obtain ⟨a2, rfl, rfl, rfl, w2⟩ := open_int Try.underlying23 (hval 2 23 v2 rfl rfl) h2
  obtain ⟨a3, rfl, rfl, rfl⟩ := open_bool Try.underlying4 (hval 3 4 v3 rfl rfl) h3
  obtain ⟨a4, rfl, rfl, rfl⟩ := open_bool Try.underlying4 (hval 4 4 v4 rfl rfl) h4
  refine (XCalls.true' (Sat.none W fun _ => ⟨0, 0, 0, 0⟩) (vs := [.agg [.int .u32 a0_0, .int .u16 a0_1], .agg [.int .u32 a1_0, .int .u16 a1_1], .int .u16 a2, .bool a3, .bool a4]) ⟨_, _, rfl, ⟨_, rfl, ⟨_, _, rfl, rfl, ⟨_, _, rfl, rfl, rfl⟩⟩⟩, ⟨_, _, rfl, ⟨_, rfl, ⟨_, _, rfl, rfl, ⟨_, _, rfl, rfl, rfl⟩⟩⟩, ⟨_, _, rfl, rfl, ⟨_, _, rfl, rfl, ⟨_, _, rfl, rfl, rfl⟩⟩⟩⟩⟩ (law_calls a0_0 b0_0 a0_1 b0_1 a1_0 b1_0 a1_1 b1_1 a2 w2 a3 a4)).mono fun e W' ⟨he, hb⟩ => ?_
  subst he
  exact ⟨_, rfl, post_true (by kernel_rfl) hW' hb rfl (fun gs hg => by subst hg; rfl) (tb := 4) rfl Try.underlying4 (by decide +kernel)⟩

theorem over : Rows.callPairsRow.holds Try.pinned (OpenSpec.ofChange Rows.callPairsSpec) :=
  OpenClaim.holds_of_wide 4 Try.f4 rfl rfl rfl rfl rfl rfl rfl ⟨rfl, rfl, rfl, rfl, rfl⟩ rfl rfl rfl rfl rfl (by kernel_rfl) Try.func4 (by kernel_rfl)
    (of_decide_eq_true (by kernel_rfl)) (by unfold Func.isWrapper; first | (rw [if_pos (by decide +kernel)]; kernel_rfl) | (rw [if_neg (by decide +kernel)]; exact ⟨rfl, rfl⟩))
    (fun os started H enc _ => lifted os started H enc)

theorem proved : Rows.CallPairsSaid :=
  over
#print axioms proved
end Go.Proofs.Ytibmhpkmmcgncaa.callPairs

