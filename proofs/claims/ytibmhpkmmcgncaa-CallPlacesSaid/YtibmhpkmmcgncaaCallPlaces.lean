/-
  CallPlaces of layer 29: whatever the address, whether both share it and of which kind, the law returns true and leaves the input as it was. No condition.
-/
import Derived.Test.YtibmhpkmmcgncaaVexGG
import Derived.Test.YtibmhpkmmcgncaaTab29
import Derived.Test.YtibmhpkmmcgncaaXp29
import Derived.Test.YtibmhpkmmcgncaaCpa29
import Derived.Test.YtibmhpkmmcgncaaCpb29
import Derived.Test.YtibmhpkmmcgncaaCpc29
import Derived.Test.YtibmhpkmmcgncaaCpd29
import Derived.Test.YtibmhpkmmcgncaaXs29
import Derived.Test.YtibmhpkmmcgncaaCsa29
import Derived.Test.YtibmhpkmmcgncaaCsb29
import Derived.Test.YtibmhpkmmcgncaaCsc29
import Derived.Test.YtibmhpkmmcgncaaCsd29
import Derived.Test.YtibmhpkmmcgncaaCpe29
import Derived.Test.YtibmhpkmmcgncaaXta29
import Derived.Test.YtibmhpkmmcgncaaCta29
import Derived.Test.YtibmhpkmmcgncaaXtb29
import Derived.Test.YtibmhpkmmcgncaaCtb29
import Derived.Test.YtibmhpkmmcgncaaCtc29
import Derived.Test.YtibmhpkmmcgncaaCtd29
import Derived.Test.YtibmhpkmmcgncaaXtf29
import Derived.Test.YtibmhpkmmcgncaaCtf29
import Derived.Test.YtibmhpkmmcgncaaXtg29
import Derived.Test.YtibmhpkmmcgncaaRows
import Derived.WalkKit
import Derived.ProofKit
import Derived.OpenShut
import Derived.KernelRfl
set_option linter.unusedVariables false
set_option linter.unusedSimpArgs false
namespace Go.Vex.CallPlaces
open Go.Proofs
open Go.Vex.Call
open Go.Vex.Ports (PortsR Bd bindCode Quiet without whoL mayCode clashB meetB atL atB)

set_option maxRecDepth 100000 in
theorem works_ev : (ev Vex.T Vex.F (fun _ => []) 100000).call 17 [] h0 isT = true := by kernel_rfl

theorem works_spec {h : Hp} {K : V → Hp → Prop} (hk : ∀ h', K (.bool true) h') : XCalls Try.prog 17 [] h K :=
  (XCalls.fresh (K := fun v => v = .bool true) rfl (fun v hv => by subst hv; rfl) (XCalls.ev tok fok mixed (fun _ => []) 100000 works_ev fun _ _ hv => isT_spec hv)).mono fun v h' hv => by rw [hv.1]; exact hk h'

theorem least_nil {k : Nat} (h : Least [] k) : k = 0 := by
  cases k with
  | zero => rfl
  | succ k => exact absurd rfl (h.2 0 (by omega))

theorem least_one {f : Fi} {k : Nat} (h : Least [(((0 : Nat) : Int), f)] k) : k = 1 := by
  match k with
  | 0 => have := h.1; simp [mget] at this
  | 1 => rfl
  | k + 2 => exact absurd (by simp [mget]) (h.2 1 (by omega))

theorem TblR.os {t : Nat} {s : TS} {h : Hp} {F : List Nat} (r : TblR t s h F) : (s.S.map Sk.o).Nodup := by
  obtain ⟨mf, ms, po, G, GP, a, f, at0, _⟩ := r
  exact (apart at0.nd).OO

theorem bc0 {p ip port : Int} {sh : Bool} {i : Int} (hp : p = 1 ∨ p = 2) (h0 : port ≠ 0) : bindCode [] i ⟨p, ip, port, sh⟩ = 0 := by
  rcases hp with rfl | rfl <;> simp [bindCode, mayCode, mget, h0]

theorem bc1 {p ip port : Int} {sh : Bool} (hp : p = 1 ∨ p = 2) (h0 : port ≠ 0) : bindCode [(1, ⟨p, ip, port, sh⟩)] 2 ⟨p, ip, port, sh⟩ = if sh then 0 else 220 := by
  rcases hp with rfl | rfl <;> cases sh <;> simp [bindCode, mayCode, mget, h0, clashB, meetB]

set_option maxRecDepth 20000 in
theorem law_calls (ip : Int) (wi : IntKind.u32.min ≤ ip ∧ ip ≤ IntKind.u32.max) (port : Int) (wp : IntKind.u16.min ≤ port ∧ port ≤ IntKind.u16.max) (share udp : Bool) {h : Hp} :
    XCalls Try.prog 6 [.agg [.int .u32 ip, .int .u16 port], .bool share, .bool udp] h fun v _ => v = .bool true := by
  refine XCalls.ofWf fun hw => ?_
  refine XCalls.cps fun K hK => ?_
  have KT : ∀ h', K (.bool true) h' := fun h' => hK _ _ rfl
  simp [IntKind.min, IntKind.max, IntKind.signed, IntKind.bits] at wi wp
  apply x6; unfold X6
  rintro g1 rfl
  have hrow1 : (h.alloc (.row [.int .u32 ip, .int .u16 port] 1 false)).get h.next = some (.row [.int .u32 ip, .int .u16 port] 1 false) := Hp.get_alloc_self
  have q1 : Quiet h (h.alloc (.row [.int .u32 ip, .int .u16 port] 1 false)) := Ports.Quiet.alloc hw _
  have n1 : (h.alloc (.row [.int .u32 ip, .int .u16 port] 1 false)).next = h.next + 1 := rfl
  generalize h.alloc (.row [.int .u32 ip, .int .u16 port] 1 false) = g1 at hrow1 q1 n1
  refine ⟨port, by rw [Hp.ld_of hrow1]; rfl, ?_⟩
  by_cases h0 : port = 0
  · have b : (port == 0) = true := by simp [h0]
    simp only [b, cond_true]
    exact works_spec fun _ => ⟨_, rfl, KT _⟩
  have b0 : (port == 0) = false := by simp [h0]
  simp only [b0, cond_false]
  obtain ⟨a, ha, ha2⟩ : ∃ a : Int, IntKind.u32.wrap (ip.tmod 2 * 7) = a ∧ (a = 0 ∨ a = 7) := by
    refine ⟨_, rfl, ?_⟩
    rw [Int.tmod_eq_emod_of_nonneg wi.1, wrap_of (by simp [IntKind.min, IntKind.max, IntKind.signed, IntKind.bits]; omega)]
    omega
  refine ⟨ip, by rw [Hp.ld_of hrow1]; rfl, by omega, _, Hp.st_of hrow1 (Nat.le_of_ble_eq_true rfl), ?_⟩
  rw [ha]
  generalize hg2 : g1.set h.next _ = g2
  have hto2 : g2.get h.next = some (.row [.int .u32 a, .int .u16 port] 1 false) := by rw [← hg2]; exact Hp.get_set_self
  have wf2 : g2.wf := by rw [← hg2]; exact q1.wf.set (by omega)
  have n2 : g2.next = h.next + 1 := by rw [← hg2]; exact n1
  clear hg2
  rintro g3 rfl
  have q3 : Quiet g2 (g2.alloc (.row [.int .u32 7] 1 false)) := Ports.Quiet.alloc wf2 _
  have hto3 := (q3.same h.next (by omega)).trans hto2
  have n3 : (g2.alloc (.row [.int .u32 7] 1 false)).next = h.next + 2 := by rw [Hp.alloc_next]; omega
  refine (newt_spec (most := 9) (xs := [7]) (fl := true) q3.wf (by omega) (by simp) (by simp) Hp.get_alloc_self).mono ?_
  rintro _ g4 ⟨t, F4, rfl, r4, q4, hF4⟩
  rw [n3] at hF4
  have hto4 := (q4.same h.next (by omega)).trans hto3
  have l4 := q4.le
  refine ⟨_, _, rfl, ?_⟩
  simp only [bne_self_eq_false, cond_false, Option.isNone_some]
  refine ⟨fun vs g => ∃ p : Int, vs = [.int .u8 p] ∧ (p = 1 ∨ p = 2) ∧ g = g4, ?_, ?_⟩
  · cases udp
    · exact ⟨(by trivial), 2, rfl, .inr rfl, rfl⟩
    · exact ⟨(by trivial), 1, rfl, .inl rfl, rfl⟩
  rintro bs p g ⟨_, e, hp, rfl⟩
  cases e
  -- keep the address' row apart
  have keep : ∀ {g g' : Hp} {F F' : List Nat}, Upd g g' F F' → h.next < g.next → h.next ∉ F → g.get h.next = some (.row [.int .u32 a, .int .u16 port] 1 false) → g'.get h.next = some (.row [.int .u32 a, .int .u16 port] 1 false) ∧ h.next ∉ F' ∧ h.next < g'.next := fun u hn hF hg => ⟨(u.same _ hn hF).trans hg, fun hm => (u.new _ hm).elim hF (fun h => by omega), by have := u.le; omega⟩
  have nF4 : h.next ∉ F4 := fun hm => by have := hF4 _ hm; omega
  refine (socket_spec (proto := p) q4.wf r4 hp (by simp) (by simp) rfl).mono ?_
  rintro v g5 ⟨wf5, F5, u5, hv⟩
  rw [if_neg (by simp)] at hv
  obtain ⟨k, o1, rfl, hk, r5⟩ := hv
  obtain rfl := least_nil hk
  obtain ⟨to5, nF5, l5⟩ := keep u5 (by omega) nF4 hto4
  simp only [List.nil_append, Int.zero_add] at r5
  refine ⟨_, _, _, rfl, ?_⟩
  refine (socket_spec (proto := p) wf5 r5 hp (by simp) (by simp) (by simp [sfind])).mono ?_
  rintro v g6 ⟨wf6, F6, u6, hv⟩
  rw [if_neg (by simp)] at hv
  obtain ⟨k, o2, rfl, hk, r6⟩ := hv
  obtain rfl := least_one hk
  obtain ⟨to6, nF6, l6⟩ := keep u6 l5 nF5 to5
  simp only [List.cons_append, List.nil_append, Int.reduceAdd] at r6
  refine ⟨_, _, _, rfl, ?_⟩
  have hoo := TblR.os r6
  have hne : ¬ o1 = o2 := by simpa using hoo
  have hne' : ¬ o2 = o1 := fun e => hne e.symm
  -- Share of both
  refine (share_spec (fd := ((0 : Nat) : Int)) (is := share) wf6 r6).mono ?_
  rintro _ g7 ⟨rfl, u7, wf7, hv⟩
  rw [if_pos (by simp [askC, mget, sfind, firstCode, cl41, dk0])] at hv
  obtain ⟨f1, x, hm, hsf, r7⟩ := hv
  have ef : f1 = ⟨1, p, 1, false⟩ := by simp [mget] at hm; exact hm.symm
  subst ef
  have ex : x = ⟨1, o1, dk0 p⟩ := by simp [sfind] at hsf; exact hsf.symm
  subst ex
  have es : supd [⟨1, o1, dk0 p⟩, ⟨2, o2, dk0 p⟩] o1 { dk0 p with share := share } = [⟨1, o1, { dk0 p with share := share }⟩, ⟨2, o2, dk0 p⟩] := by simp [supd, hne']
  simp only [es] at r7
  obtain ⟨to7, _, l7⟩ := keep u7 l6 nF6 to6
  refine ⟨_, rfl, ?_⟩
  refine (share_spec (fd := ((1 : Nat) : Int)) (is := share) wf7 r7).mono ?_
  rintro _ g8 ⟨rfl, u8, wf8, hv⟩
  rw [if_pos (by simp [askC, mget, sfind, firstCode, cl41, dk0])] at hv
  obtain ⟨f1, x, hm, hsf, r8⟩ := hv
  have ef : f1 = ⟨1, p, 2, false⟩ := by simp [mget] at hm; exact hm.symm
  subst ef
  have ex : x = ⟨2, o2, dk0 p⟩ := by simp [sfind] at hsf; exact hsf.symm
  subst ex
  have es : supd [⟨1, o1, { dk0 p with share := share }⟩, ⟨2, o2, dk0 p⟩] o2 { dk0 p with share := share } = [⟨1, o1, { dk0 p with share := share }⟩, ⟨2, o2, { dk0 p with share := share }⟩] := by simp [supd, hne]
  simp only [es] at r8
  obtain ⟨to8, _, l8⟩ := keep u8 l7 nF6 to7
  refine ⟨_, rfl, a, port, by rw [Hp.lda_of to8 (Nat.le_of_ble_eq_true rfl)]; rfl, ?_⟩
  have okA : (a = 0 ∨ a ∈ [(7 : Int)]) ∧ 0 < port := ⟨by simpa using ha2, by omega⟩
  -- the first is bound
  refine (bindt_spec (fd := ((0 : Nat) : Int)) (ip := a) (port := port) wf8 r8 (by simp)).mono ?_
  rintro v g9 ⟨u9, wf9, hv⟩
  rw [if_pos (by simp only [bindA, askC, cl41, cl42, firstCode, okA]; simp [mget, sfind, dk0])] at hv
  obtain ⟨f1, x, hm, hsf, rfl, hv⟩ := hv
  have ef : f1 = ⟨1, p, 1, false⟩ := by simp [mget] at hm; exact hm.symm
  subst ef
  have ex : x = ⟨1, o1, { dk0 p with share := share }⟩ := by simp [sfind] at hsf; exact hsf.symm
  subst ex
  have eb : bound { dk0 p with share := share } a port = ⟨p, a, port, share⟩ := rfl
  simp only [eb] at hv ⊢
  rw [bc0 hp h0, if_pos rfl] at hv
  rw [bc0 hp h0]
  have es : supd [⟨1, o1, { dk0 p with share := share }⟩, ⟨2, o2, { dk0 p with share := share }⟩] o1 { dk0 p with share := share, st := 1, b := ⟨p, a, port, share⟩ } = [⟨1, o1, { dk0 p with share := share, st := 1, b := ⟨p, a, port, share⟩ }⟩, ⟨2, o2, { dk0 p with share := share }⟩] := by simp [supd, hne']
  simp only [List.nil_append] at hv
  have r9 := hv
  rw [es] at r9
  obtain ⟨to9, _, l9⟩ := keep u9 l8 nF6 to8
  refine ⟨_, rfl, ?_⟩
  simp only [bne_self_eq_false, cond_false]
  -- what is bound is not fresh
  refine (share_spec (fd := ((0 : Nat) : Int)) (is := true) wf9 r9).mono ?_
  rintro _ g10 ⟨rfl, u10, wf10, hv⟩
  have e10 : askC ⟨9, [7], [(((0 : Nat) : Int), ⟨1, p, 1, false⟩), (((1 : Nat) : Int), ⟨1, p, 2, false⟩)], [⟨1, o1, { dk0 p with share := share, st := 1, b := ⟨p, a, port, share⟩ }⟩, ⟨2, o2, { dk0 p with share := share }⟩], [(1, ⟨p, a, port, share⟩)], 2⟩ ((0 : Nat) : Int) [cl41] = 3 := by simp [askC, mget, sfind, firstCode, cl41]
  rw [e10] at hv
  rw [if_neg (by omega)] at hv
  rw [e10]
  obtain ⟨to10, _, l10⟩ := keep u10 l9 nF6 to9
  refine ⟨_, rfl, ?_⟩
  simp only [bne_self_eq_false, cond_false]
  refine ⟨a, port, by rw [Hp.lda_of to10 (Nat.le_of_ble_eq_true rfl)]; rfl, ?_⟩
  refine (bindt_spec (fd := ((0 : Nat) : Int)) (ip := a) (port := port) wf10 hv (by simp)).mono ?_
  rintro v g11 ⟨u11, wf11, hv⟩
  have e11 : bindA ⟨9, [7], [(((0 : Nat) : Int), ⟨1, p, 1, false⟩), (((1 : Nat) : Int), ⟨1, p, 2, false⟩)], [⟨1, o1, { dk0 p with share := share, st := 1, b := ⟨p, a, port, share⟩ }⟩, ⟨2, o2, { dk0 p with share := share }⟩], [(1, ⟨p, a, port, share⟩)], 2⟩ ((0 : Nat) : Int) a port = 3 := by simp [bindA, askC, mget, sfind, firstCode, cl41]
  rw [e11] at hv
  rw [if_neg (by omega)] at hv
  obtain ⟨rfl, r11⟩ := hv
  obtain ⟨to11, _, l11⟩ := keep u11 l10 nF6 to10
  refine ⟨_, rfl, ?_⟩
  simp only [bne_self_eq_false, cond_false]
  refine ⟨a, port, by rw [Hp.lda_of to11 (Nat.le_of_ble_eq_true rfl)]; rfl, ?_⟩
  -- the second
  refine (bindt_spec (fd := ((1 : Nat) : Int)) (ip := a) (port := port) wf11 r11 (by simp)).mono ?_
  rintro v g12 ⟨u12, wf12, hv⟩
  rw [if_pos (by simp only [bindA, askC, cl41, cl42, firstCode, okA]; simp [mget, sfind, dk0])] at hv
  obtain ⟨f1, x, hm, hsf, rfl, hv⟩ := hv
  have ef : f1 = ⟨1, p, 2, false⟩ := by simp [mget] at hm; exact hm.symm
  subst ef
  have ex : x = ⟨2, o2, { dk0 p with share := share }⟩ := by simp [sfind] at hsf; exact hsf.symm
  subst ex
  simp only [eb] at hv ⊢
  rw [bc1 hp h0] at hv ⊢
  obtain ⟨to12, _, l12⟩ := keep u12 l11 nF6 to11
  refine ⟨_, rfl, ?_⟩
  cases share with
  | true =>
    simp only [if_true, beq_self_eq_true, cond_true] at hv ⊢
    refine ⟨a, port, by rw [Hp.lda_of to12 (Nat.le_of_ble_eq_true rfl)]; rfl, ?_⟩
    refine (to_spec (k := p) (ip := a) (port := port) wf12 hv (by simp)).mono ?_
    rintro _ g13 ⟨a13, f13, rfl, q13⟩
    refine ⟨_, _, _, rfl, ?_⟩
    have : (whoL [(1, (⟨p, a, port, true⟩ : Bd)), (2, ⟨p, a, port, true⟩)] p a port).length = 2 := by simp [whoL, atL, atB]
    simp only [List.cons_append, List.nil_append, this]
    exact works_spec fun _ => ⟨_, rfl, KT _⟩
  | false =>
    simp only [Bool.false_eq_true, if_false, cond_false, bne_self_eq_false] at hv ⊢
    rw [if_neg (by omega)] at hv
    refine (close_spec (fd := ((0 : Nat) : Int)) wf12 hv).mono ?_
    rintro _ g13 ⟨rfl, r13, u13, wf13⟩
    obtain ⟨to13, _, l13⟩ := keep u13 l12 nF6 to12
    have em : mget [(((0 : Nat) : Int), (⟨1, p, 1, false⟩ : Fi)), (((1 : Nat) : Int), ⟨1, p, 2, false⟩)] ((0 : Nat) : Int) = some ⟨1, p, 1, false⟩ := by simp [mget]
    have ed : mdel [(((0 : Nat) : Int), (⟨1, p, 1, false⟩ : Fi)), (((1 : Nat) : Int), ⟨1, p, 2, false⟩)] ((0 : Nat) : Int) = [(((1 : Nat) : Int), ⟨1, p, 2, false⟩)] := by simp [mdel]
    simp only [em, ed, Option.isSome_some, if_true, Option.getD_some] at r13 ⊢
    refine ⟨1, p, 1, false, 0, rfl, a, port, by rw [Hp.lda_of to13 (Nat.le_of_ble_eq_true rfl)]; rfl, ?_⟩
    refine (bindt_spec (fd := ((1 : Nat) : Int)) (ip := a) (port := port) wf13 r13 (by simp)).mono ?_
    rintro v g14 ⟨u14, wf14, hv⟩
    rw [if_pos (by simp only [bindA, askC, cl41, cl42, firstCode, okA]; simp [mget, sfind, dk0])] at hv
    obtain ⟨f1, x, hm, hsf, rfl, hv⟩ := hv
    have ef : f1 = ⟨1, p, 2, false⟩ := by simp [mget] at hm; exact hm.symm
    subst ef
    have ex : x = ⟨2, o2, { dk0 p with share := false }⟩ := by simp [sfind] at hsf; exact hsf.symm
    subst ex
    simp only [eb] at hv ⊢
    rw [bc1 hp h0] at hv ⊢
    simp only [Bool.false_eq_true, if_false] at hv ⊢
    rw [if_neg (by omega)] at hv
    obtain ⟨to14, _, l14⟩ := keep u14 l13 nF6 to13
    refine ⟨_, rfl, ?_⟩
    simp only [bne_self_eq_false, cond_false]
    refine (free_spec (id := 1) wf14 hv (by simp) (by simp) (by simp)).mono ?_
    rintro v g15 ⟨wf15, hv⟩
    rw [if_pos (by simp [sfind])] at hv
    obtain ⟨rfl, F15, hsub, r15, u15⟩ := hv
    obtain ⟨to15, nF15, l15⟩ := keep u15 l14 nF6 to14
    have ed : sdel [⟨1, o1, { dk0 p with share := false, st := 1, b := ⟨p, a, port, false⟩ }⟩, ⟨2, o2, { dk0 p with share := false }⟩] 1 = [⟨2, o2, { dk0 p with share := false }⟩] := by simp [sdel]
    have ew : without [((1 : Int), (⟨p, a, port, false⟩ : Bd))] [1] = [] := by simp [without]
    simp only [ed, ew] at r15
    refine ⟨_, rfl, ?_⟩
    simp only [Bool.not_true, cond_false]
    refine (free_spec (id := 1) wf15 r15 (by simp) (by simp) (by simp)).mono ?_
    rintro v g16 ⟨wf16, hv⟩
    rw [if_neg (by simp [sfind])] at hv
    obtain ⟨rfl, r16, u16⟩ := hv
    obtain ⟨to16, _, l16⟩ := keep u16 l15 nF15 to15
    refine ⟨_, rfl, ?_⟩
    simp only [cond_false]
    refine ⟨a, port, by rw [Hp.lda_of to16 (Nat.le_of_ble_eq_true rfl)]; rfl, ?_⟩
    refine (bindt_spec (fd := ((1 : Nat) : Int)) (ip := a) (port := port) wf16 r16 (by simp)).mono ?_
    rintro v g17 ⟨u17, wf17, hv⟩
    rw [if_pos (by simp only [bindA, askC, cl41, cl42, firstCode, okA]; simp [mget, sfind, dk0])] at hv
    obtain ⟨f1, x, hm, hsf, rfl, hv⟩ := hv
    have ef : f1 = ⟨1, p, 2, false⟩ := by simp [mget] at hm; exact hm.symm
    subst ef
    have ex : x = ⟨2, o2, { dk0 p with share := false }⟩ := by simp [sfind] at hsf; exact hsf.symm
    subst ex
    simp only [eb] at hv ⊢
    rw [bc0 hp h0, if_pos rfl] at hv
    rw [bc0 hp h0]
    obtain ⟨to17, _, l17⟩ := keep u17 l16 nF15 to16
    refine ⟨_, rfl, ?_⟩
    simp only [beq_self_eq_true, cond_true]
    refine ⟨a, port, by rw [Hp.lda_of to17 (Nat.le_of_ble_eq_true rfl)]; rfl, ?_⟩
    refine (to_spec (k := p) (ip := a) (port := port) wf17 hv (by simp)).mono ?_
    rintro _ g18 ⟨a18, f18, rfl, q18⟩
    refine ⟨_, _, _, rfl, ?_⟩
    have : (whoL [((2 : Int), (⟨p, a, port, false⟩ : Bd))] p a port).length = 1 := by simp [whoL, atL, atB]
    simp only [List.nil_append, this]
    exact works_spec fun _ => ⟨_, rfl, KT _⟩
end Go.Vex.CallPlaces

namespace Go.Proofs.Ytibmhpkmmcgncaa.callPlaces
open Go.ChangeShapes Go.WideShapes Go.ChangeAt Go.RowKit Go.Vex Go.Vex.CallPlaces
open Go.ChangeMaps (open_string shut_string)

theorem own : ownKnob Try.prog.godebug = none := by kernel_rfl

set_option maxRecDepth 100000 in
theorem lifted (os : Os) (started : os.Started) (H : Type) (enc : TypeId × Value → H) :
    ReturnsInHanded {} Try.checked os 6 .any (Rows.callPlacesSpec.pre6 enc Try.prog Try.f6 Rows.callPlacesRow.domain false) (Rows.callPlacesSpec.post enc Try.prog Try.f6 false true false false) := by
  refine returnsInHanded_of_change_sized (C := Try.checked) own started (by kernel_rfl) Try.func6
    (ChangeSpec.witness6 (enc := enc) (C := Try.checked) false ⟨#[], #[.agg #[.int .u32 0, .int .u16 0], .bool false, .bool false], []⟩ 8 (by kernel_rfl) (by kernel_rfl) (by kernel_rfl) (by kernel_rfl)) ?_
  intro W base args ds gs before hval0 hW hcnd hsz _
  have hval : ∀ (j : Nat) t v, Try.f6.params[j]? = some t → args[j]? = some v → Value.okWide Try.prog W .any base t v := hval0
  have hW' := hW
  obtain ⟨p, q, hA0, hV, rfl, hfz, hnd⟩ := hW
  have hA : DataW.TrodAll enc Try.prog W 0 (fun _ => true) true Try.f6.params.toList args.toList ds p := hA0
  rw [Try.params6] at hA hval hsz
  obtain ⟨v0, vs0, d0, ds0, p0, q0, hargs, rfl, rfl, h0, r0⟩ := trodAll_cons hA
  obtain ⟨v1, vs1, d1, ds1, p1, q1, rfl, rfl, rfl, h1, r1⟩ := trodAll_cons r0
  obtain ⟨v2, vs2, d2, ds2, p2, q2, rfl, rfl, rfl, h2, r2⟩ := trodAll_cons r1
  obtain ⟨rfl, rfl, rfl⟩ := trodAll_nil r2
  obtain rfl : args = #[v0, v1, v2] := by cases args; simp_all
  obtain ⟨rfl, rfl⟩ := trodVars_none hV
  obtain ⟨cs0, rfl, hsz0, hc0⟩ := open_flat Try.underlying25 (ts := [22, 23]) (by kernel_rfl) (by kernel_rfl) (hval 0 25 v0 rfl rfl)
  obtain ⟨x0_0, hx0_0, ok0_0⟩ := hc0 0 22 rfl
  obtain ⟨a0_0, rfl, b0_0⟩ := cell_intB Try.underlying22 ok0_0
  obtain ⟨x0_1, hx0_1, ok0_1⟩ := hc0 1 23 rfl
  obtain ⟨a0_1, rfl, b0_1⟩ := cell_intB Try.underlying23 ok0_1
  obtain rfl := arr_of (l := [.int .u32 a0_0, .int .u16 a0_1]) hsz0 (fun j x hj => by
    match j, hj with
    | 0, hj => cases hj; exact hx0_0
    | 1, hj => cases hj; exact hx0_1
    | j + 2, hj => simp at hj)
  obtain ⟨a1, rfl, rfl, rfl⟩ := open_bool Try.underlying4 (hval 1 4 v1 rfl rfl) h1
  obtain ⟨a2, rfl, rfl, rfl⟩ := open_bool Try.underlying4 (hval 2 4 v2 rfl rfl) h2
  refine (XCalls.true' (Sat.none W fun _ => ⟨0, 0, 0, 0⟩) (vs := [.agg [.int .u32 a0_0, .int .u16 a0_1], .bool a1, .bool a2]) ⟨_, _, rfl, ⟨_, rfl, ⟨_, _, rfl, rfl, ⟨_, _, rfl, rfl, rfl⟩⟩⟩, ⟨_, _, rfl, rfl, ⟨_, _, rfl, rfl, rfl⟩⟩⟩ (law_calls a0_0 b0_0 a0_1 b0_1 a1 a2)).mono fun e W' ⟨he, hb⟩ => ?_
  subst he
  exact ⟨_, rfl, post_true (by kernel_rfl) hW' hb rfl (fun gs hg => by subst hg; rfl) (tb := 4) rfl Try.underlying4 (by decide +kernel)⟩

theorem over : Rows.callPlacesRow.holds Try.pinned (OpenSpec.ofChange Rows.callPlacesSpec) :=
  OpenClaim.holds_of_wide 6 Try.f6 rfl rfl rfl rfl rfl rfl rfl ⟨rfl, rfl, rfl, rfl, rfl⟩ rfl rfl rfl rfl rfl (by kernel_rfl) Try.func6 (by kernel_rfl)
    (of_decide_eq_true (by kernel_rfl)) (by unfold Func.isWrapper; first | (rw [if_pos (by decide +kernel)]; kernel_rfl) | (rw [if_neg (by decide +kernel)]; exact ⟨rfl, rfl⟩))
    (fun os started H enc _ => lifted os started H enc)

theorem proved : Rows.CallPlacesSaid :=
  over
#print axioms proved
end Go.Proofs.Ytibmhpkmmcgncaa.callPlaces

