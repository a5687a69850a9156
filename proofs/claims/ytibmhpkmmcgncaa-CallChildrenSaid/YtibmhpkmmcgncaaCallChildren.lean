/-
  CallChildren of layer 29: whatever the other end and how many descriptors there are, the law returns true and leaves the input as it was. No condition.
-/
import Derived.Test.YtibmhpkmmcgncaaVexGG
import Derived.Test.YtibmhpkmmcgncaaTab29
import Derived.Test.YtibmhpkmmcgncaaXp29
import Derived.Test.YtibmhpkmmcgncaaCpa29
import Derived.Test.YtibmhpkmmcgncaaCpb29
import Derived.Test.YtibmhpkmmcgncaaCpc29
import Derived.Test.YtibmhpkmmcgncaaCpd29
import Derived.Test.YtibmhpkmmcgncaaXta29
import Derived.Test.YtibmhpkmmcgncaaCta29
import Derived.Test.YtibmhpkmmcgncaaXtb29
import Derived.Test.YtibmhpkmmcgncaaCtb29
import Derived.Test.YtibmhpkmmcgncaaCtc29
import Derived.Test.YtibmhpkmmcgncaaCtd29
import Derived.Test.YtibmhpkmmcgncaaXtd29
import Derived.Test.YtibmhpkmmcgncaaRows
import Derived.WalkKit
import Derived.ProofKit
import Derived.OpenShut
import Derived.KernelRfl
set_option linter.unusedVariables false
set_option linter.unusedSimpArgs false
namespace Go.Vex.CallChildren
open Go.Proofs
open Go.Vex.Call
open Go.Vex.Ports (PortsR Bd bindCode Quiet)

set_option maxRecDepth 100000 in
theorem works_ev : (ev Vex.T Vex.F (fun _ => []) 100000).call 17 [] h0 isT = true := by kernel_rfl

theorem works_spec {h : Hp} {K : V → Hp → Prop} (hk : ∀ h', K (.bool true) h') : XCalls Try.prog 17 [] h K :=
  (XCalls.fresh (K := fun v => v = .bool true) rfl (fun v hv => by subst hv; rfl) (XCalls.ev tok fok mixed (fun _ => []) 100000 works_ev fun _ _ hv => isT_spec hv)).mono fun v h' hv => by rw [hv.1]; exact hk h'

theorem mget_app {κ β : Type} [DecidableEq κ] (l r : List (κ × β)) (k : κ) : mget (l ++ r) k = (mget l k).or (mget r k) := by
  unfold mget
  rw [List.find?_append, Option.map_or]

theorem sfind_app (l r : List Sk) (id : Int) : sfind (l ++ r) id = (sfind l id).or (sfind r id) := by
  unfold sfind
  rw [List.find?_append]

theorem sfind_none {S : List Sk} {id : Int} (h : ∀ x ∈ S, x.id < id) : sfind S id = none := by
  unfold sfind
  rw [List.find?_eq_none]
  intro x hx
  have := h x hx
  simp only [decide_eq_true_eq]; omega

theorem least_nil {k : Nat} (h : Least [] k) : k = 0 := by
  cases k with
  | zero => rfl
  | succ k => exact absurd rfl (h.2 0 (by omega))

set_option maxRecDepth 20000 in
theorem law_calls (ip : Int) (wi : IntKind.u32.min ≤ ip ∧ ip ≤ IntKind.u32.max) (port : Int) (wp : IntKind.u16.min ≤ port ∧ port ≤ IntKind.u16.max) (most : Int) (w1 : (Lit.int .u8 most).wf = true) {h : Hp} :
    XCalls Try.prog 3 [.agg [.int .u32 ip, .int .u16 port], .int .u8 most] h fun v _ => v = .bool true := by
  refine XCalls.ofWf fun hw => ?_
  refine XCalls.cps fun K hK => ?_
  have KT : ∀ h', K (.bool true) h' := fun h' => hK _ _ rfl
  have hmo := lit_bnd w1
  simp [IntKind.min, IntKind.max, IntKind.signed, IntKind.bits] at hmo
  apply x3; unfold X3
  rintro g1 rfl
  refine ⟨by omega, ?_⟩
  rintro g2 rfl
  obtain ⟨N, hN, hN1⟩ : ∃ N : Int, IntKind.i64.wrap ((IntKind.i64.wrap most).tmod 64 + 1) = N ∧ 1 ≤ N ∧ N ≤ 64 := by
    refine ⟨_, rfl, ?_⟩
    rw [wr (x := most) (by omega) (by omega), Int.tmod_eq_emod_of_nonneg hmo.1, wr (by omega) (by omega)]; omega
  rw [hN]
  have q1 : Quiet h (h.alloc (.row [.int .u32 ip, .int .u16 port] 1 false)) := Ports.Quiet.alloc hw _
  have q2 := q1.trans (Ports.Quiet.alloc q1.wf (.row [.int .u32 7] 1 false))
  have e1 : (h.alloc (.row [.int .u32 ip, .int .u16 port] 1 false)).next = h.next + 1 := rfl
  have hto2 : ((h.alloc (.row [.int .u32 ip, .int .u16 port] 1 false)).alloc (.row [.int .u32 7] 1 false)).get h.next = some (.row [.int .u32 ip, .int .u16 port] 1 false) := by rw [Hp.get_alloc_ne (by rw [e1]; omega)]; exact Hp.get_alloc_self
  have hn2 : ((h.alloc (.row [.int .u32 ip, .int .u16 port] 1 false)).alloc (.row [.int .u32 7] 1 false)).next = h.next + 2 := rfl
  refine (newt_spec (most := N) (xs := [7]) (fl := true) q2.wf hN1 (by simp) (by simp) Hp.get_alloc_self).mono ?_
  rintro _ g3 ⟨t, F3, rfl, r3, q3, hF3⟩
  rw [hn2] at hF3
  have hto3 := (q3.same h.next (by rw [hn2]; omega)).trans hto2
  have hle3 := q3.le
  rw [hn2] at hle3
  refine ⟨_, _, rfl, ?_⟩
  simp only [bne_self_eq_false, cond_false, Option.isNone_some]
  -- the first socket
  refine (socket_spec (proto := 2) q3.wf r3 (.inr rfl) (by simp) (by simp) rfl).mono ?_
  rintro v g4 ⟨wf4, F4, u4, hv⟩
  rw [if_neg (by simp only [List.length_nil]; omega)] at hv
  obtain ⟨k0, o, rfl, hk0, r4⟩ := hv
  obtain rfl := least_nil hk0
  simp only [List.nil_append, Int.zero_add] at r4
  have hF4 : h.next ∉ F4 := fun hm => (u4.new _ hm).elim (fun h => by have := hF3 _ h; omega) (fun h => by omega)
  have hto4 := (u4.same h.next (by omega) (fun h => by have := hF3 _ h; omega)).trans hto3
  refine ⟨_, _, _, rfl, ip, port, by rw [Hp.lda_of hto4 (Nat.le_of_ble_eq_true rfl)]; rfl, ?_⟩
  refine (pair_spec wf4).mono ?_
  rintro _ g5 ⟨rfl, q5⟩
  have hle4 := u4.le
  have hto5 := (q5.same h.next (by omega)).trans hto4
  refine ⟨7, 80, ip, port, rfl, ?_⟩
  have r5 := (TblR.rep _ _).stay wf4 r4 q5.same
  refine (born_spec q5.wf r5 (by simp)).mono ?_
  rintro _ g6 ⟨rfl, r6, u6, wf6, hn6⟩
  have hle5 := q5.le
  have hto6 := (u6.same h.next (by omega) hF4).trans hto5
  refine ⟨_, rfl, ?_⟩
  simp only [Int.reduceAdd] at r6 ⊢
  refine (accept_spec (fd := (0 : Nat)) (id := 2) (fip := 7) (fport := 80) (tip := ip) (tport := port) wf6 r6 (by simp)).mono ?_
  rintro v g7 ⟨wf7, F7, u7, hv⟩
  rw [if_neg (by simp [accA, askC, mget, sfind, firstCode, cl36, dk0])] at hv
  obtain ⟨rfl, r7⟩ := hv
  refine ⟨_, _, rfl, ?_⟩
  have ea : accA ⟨N, [7], [(((0 : Nat) : Int), ⟨1, 2, 1, false⟩)], [⟨1, o, dk0 2⟩], [], 2⟩ ((0 : Nat) : Int) 2 = 3 := by simp [accA, askC, mget, sfind, firstCode, cl36, dk0]
  rw [ea]
  simp only [bne_self_eq_false, cond_false]
  have hle6 : h.next < g6.next := by omega
  have hF7 : h.next ∉ F7 := fun hm => (u7.new _ hm).elim hF4 (fun h => by omega)
  have hto7 := (u7.same h.next (by omega) hF4).trans hto6
  have hle7 := u7.le
  refine (bindt_spec (fd := ((0 : Nat) : Int)) (ip := 0) (port := 80) wf7 r7 (by simp)).mono ?_
  rintro v g8 ⟨u8, wf8, hv⟩
  rw [if_pos (by simp [bindA, askC, mget, sfind, firstCode, cl41, cl42, dk0])] at hv
  obtain ⟨f1, x, hm, hsf, rfl, hv⟩ := hv
  have ef : f1 = ⟨1, 2, 1, false⟩ := by simp [mget] at hm; exact hm.symm
  subst ef
  have ex : x = ⟨1, o, dk0 2⟩ := by simp [sfind] at hsf; exact hsf.symm
  subst ex
  rw [if_pos (by show bindCode [] 1 ⟨2, 0, 80, false⟩ = 0; decide)] at hv
  refine ⟨_, rfl, ?_⟩
  have hle8 := u8.le
  have hto8 := (u8.same h.next (by omega) hF7).trans hto7
  refine (listen_spec (fd := ((0 : Nat) : Int)) wf8 hv).mono ?_
  rintro _ g9 ⟨rfl, u9, wf9, hv⟩
  rw [if_pos (by simp [askC, mget, sfind, supd, firstCode, cl44, cl45, cl46, dk0])] at hv
  obtain ⟨f1, x, hm, hsf, r9⟩ := hv
  have ef : f1 = ⟨1, 2, 1, false⟩ := by simp [mget] at hm; exact hm.symm
  subst ef
  have ex : x = ⟨1, o, { dk0 2 with st := 1, b := bound (dk0 2) 0 80 }⟩ := by simp [sfind, supd] at hsf; exact hsf.symm
  subst ex
  refine ⟨_, rfl, ?_⟩
  have hle9 := u9.le
  have hto9 := (u9.same h.next (by omega) hF7).trans hto8
  rw [wr (x := N + 2) (by omega) (by omega), wr (x := N - 1) (by omega) (by omega)]
  refine ⟨fun vs g => match vs with
    | [.int _ i] => ∃ (k : Nat) (s : TS) (F : List Nat) (x : Sk), i = k ∧ (k : Int) ≤ N + 2 ∧ TblR t s g F ∧ s.most = N ∧ mget s.A (((0 : Nat) : Int)) = some ⟨1, 2, 1, false⟩ ∧ sfind s.S 1 = some x ∧ x.d.st = 2 ∧ s.last = 2 + k ∧ (∀ y ∈ s.S, y.id ≤ s.last) ∧
        ((s.A.length : Int) = if 1 + (k : Int) ≤ N then 1 + (k : Int) else N) ∧ g.wf ∧ g.get h.next = some (.row [.int .u32 ip, .int .u16 port] 1 false) ∧ h.next ∉ F ∧ h.next < g.next
    | _ => False, fun vs _ => match vs with
    | [.int _ i] => 70 - i.toNat
    | _ => 0, ⟨(by trivial), 0, _, _, _, rfl, by omega, r9, rfl, rfl, by simp [sfind, supd]; rfl, rfl, rfl, by simp [supd], by simp only [List.length_singleton]; rw [if_pos (by omega)]; rfl, wf9, hto9, hF7, by omega⟩, ?_⟩
  rintro bs i g ⟨k, s, F, x, rfl, hk, r, hmost, hA0, hx, hst, hlast, hids, hlen, wf, hto, hnF, hng⟩
  cases c : ltI (↑k) (N + 2) with
  | false => exact works_spec fun _ => ⟨_, rfl, KT _⟩
  | true =>
  rw [ltI_eq, decide_eq_true_eq] at c
  have hw1 : IntKind.i64.wrap ((k : Int) + 1) = ((k + 1 : Nat) : Int) := by rw [wr (by omega) (by omega)]; rfl
  have dec : 70 - Int.toNat (IntKind.i64.wrap ((k : Int) + 1)) < 70 - Int.toNat (k : Int) := by
    rw [hw1]; simp only [Int.toNat_natCast]; omega
  simp only [cond_true]
  have hAl : s.A.length ≤ 1000 := by split at hlen <;> omega
  refine (born_spec wf r (by omega)).mono ?_
  rintro _ b1 ⟨rfl, rb1, ub1, wb1, nb1⟩
  refine ⟨_, rfl, ?_⟩
  have hto1 := (ub1.same h.next hng hnF).trans hto
  refine ⟨ip, port, by rw [Hp.lda_of hto1 (Nat.le_of_ble_eq_true rfl)]; rfl, ?_⟩
  refine (pair_spec wb1).mono ?_
  rintro _ b2 ⟨rfl, qb2⟩
  have hto2' := (qb2.same h.next (by omega)).trans hto1
  have lb2 := qb2.le
  refine ⟨7, 80, ip, port, rfl, ?_⟩
  have rb2 := (TblR.rep _ _).stay wb1 rb1 qb2.same
  have hno : sfind s.S (s.last + 1) = none := sfind_none fun y hy => by have := hids y hy; omega
  have eacc : accA { s with last := s.last + 1 } (((0 : Nat) : Int)) (s.last + 1) = if (s.A.length : Int) < N then 0 else 291 := by
    unfold accA askC
    have : 0 < s.last + 1 := by omega
    have hA0' : mget s.A (0 : Int) = some ⟨1, 2, 1, false⟩ := hA0
    by_cases hf : (s.A.length : Int) < N
    · simp [hA0', hx, firstCode, cl36, cl38, cl39, hst, hno, hmost, this, hf]
    · simp [hA0', hx, firstCode, cl36, cl38, cl39, hst, hno, hmost, this, hf]
  refine (accept_spec (fd := ((0 : Nat) : Int)) (id := s.last + 1) (fip := 7) (fport := 80) (tip := ip) (tport := port) qb2.wf rb2 hAl).mono ?_
  rintro v b3 ⟨wb3, F3', ub3, hv⟩
  rw [eacc] at hv
  have hnF3 : h.next ∉ F3' := fun hm => (ub3.new _ hm).elim hnF (fun h => by omega)
  have hto3' := (ub3.same h.next (by omega) hnF).trans hto2'
  have lb3 := ub3.le
  by_cases hfull : (s.A.length : Int) < N
  · rw [if_pos hfull, if_pos rfl] at hv
    obtain ⟨kk, o', rfl, hkk, rb3⟩ := hv
    refine ⟨_, _, rfl, ?_⟩
    have hkN : (k : Int) < N - 1 := by split at hlen <;> omega
    have c2 : ltI (↑k) (N - 1) = true := by rw [ltI_eq, decide_eq_true_eq]; exact hkN
    rw [c2]
    simp only [Bool.not_true, cond_false]
    refine (file_spec (fd := (kk : Int)) wb3 rb3).mono ?_
    rintro _ b4 ⟨rfl, qb4⟩
    have eA : mget (s.A ++ [((kk : Int), (⟨1, 2, s.last + 1, false⟩ : Fi))]) (kk : Int) = some ⟨1, 2, s.last + 1, false⟩ := by rw [mget_app, hkk.1]; simp [mget]
    simp only [eA, Option.getD_some, Option.isSome_some]
    refine ⟨1, 2, s.last + 1, false, true, rfl, ?_⟩
    rintro b5 rfl
    refine ⟨_, Hp.st_of Hp.get_alloc_self (Nat.le_of_ble_eq_true rfl), ?_⟩
    generalize hb6 : (b4.alloc _).set b4.next _ = b6
    have rowf : b6.get b4.next = some (.row [.int .u8 1, .int .u8 2, .int .u64 (s.last + 1), .bool false] 1 false) := by rw [← hb6]; exact Hp.get_set_self
    have qb6 : Quiet b4 b6 := ⟨fun j hj => by rw [← hb6, Hp.get_set_ne (by omega), Hp.get_alloc_ne (by omega)], by rw [← hb6]; simp only [Hp.set_next, Hp.alloc_next]; omega, by rw [← hb6]; exact qb4.wf.alloc.set (by simp [Hp.alloc_next])⟩
    have nb6 : b6.next = b4.next + 1 := by rw [← hb6]; rfl
    clear hb6
    have q46 := qb4.trans qb6
    have rb6 := (TblR.rep _ _).stay wb3 rb3 q46.same
    refine (desk_spec (id := s.last + 1) qb6.wf rb6).mono ?_
    rintro _ b7 ⟨rfl, qb7⟩
    have eS : sfind (s.S ++ [⟨s.last + 1, o', kid 7 80 ip port⟩]) (s.last + 1) = some ⟨s.last + 1, o', kid 7 80 ip port⟩ := by rw [sfind_app, hno]; simp [sfind]
    simp only [eS, Option.map_some, Option.getD_some, Option.isSome_some]
    refine ⟨2, 3, 0, 0, 0, false, 7, 80, ip, port, true, rfl, ?_⟩
    rintro b8 rfl
    refine ⟨_, Hp.st_of Hp.get_alloc_self (Nat.le_of_ble_eq_true rfl), ?_⟩
    generalize hb9 : (b7.alloc _).set b7.next _ = b9
    have rowd : b9.get b7.next = some (.row [.int .u8 2, .int .u8 3, .int .u8 0, .int .u32 0, .int .u16 0, .bool false, .int .u32 7, .int .u16 80, .int .u32 ip, .int .u16 port] 1 false) := by rw [← hb9]; exact Hp.get_set_self
    have qb9 : Quiet b7 b9 := ⟨fun j hj => by rw [← hb9, Hp.get_set_ne (by omega), Hp.get_alloc_ne (by omega)], by rw [← hb9]; simp only [Hp.set_next, Hp.alloc_next]; omega, by rw [← hb9]; exact qb7.wf.alloc.set (by simp [Hp.alloc_next])⟩
    have nb9 : b9.next = b7.next + 1 := by rw [← hb9]; rfl
    clear hb9
    have q69 := qb7.trans qb9
    have q39 := q46.trans q69
    have rowf9 := (q69.same b4.next (by omega)).trans rowf
    have hto9' := (q39.same h.next (by omega)).trans hto3'
    have rb9 := (TblR.rep _ _).stay wb3 rb3 q39.same
    simp only [bne_self_eq_false, cond_false, Bool.not_true]
    refine ⟨s.last + 1, by rw [Hp.ld_of rowf9]; rfl, ?_⟩
    simp only [bne_self_eq_false, cond_false]
    refine ⟨2, by rw [Hp.ld_of rowf9]; rfl, ?_⟩
    simp only [bne_self_eq_false, cond_false]
    refine ⟨7, 80, ip, port, by rw [Hp.lda_of rowd (Nat.le_of_ble_eq_true rfl)]; rfl, ip, port, by rw [Hp.lda_of hto9' (Nat.le_of_ble_eq_true rfl)]; rfl, ?_⟩
    refine (pair_spec q39.wf).mono ?_
    rintro _ b10 ⟨rfl, qb10⟩
    have rowd10 := (qb10.same b7.next (by omega)).trans rowd
    have l39 := q39.le
    have hto10 := (qb10.same h.next (by omega)).trans hto9'
    refine ⟨7, 80, ip, port, rfl, ⟨7, 80, ip, port, by rw [Hp.lda_of rowd10 (Nat.le_of_ble_eq_true rfl)]; rfl, rfl⟩, (by trivial), ?_⟩
    simp only [beq_self_eq_true, Bool.and_self, Bool.not_true, cond_false]
    refine ⟨3, by rw [Hp.ld_of rowd10]; rfl, ?_⟩
    simp only [bne_self_eq_false, cond_false]
    refine ⟨0, 0, 0, false, by rw [Hp.lda_of rowd10 (Nat.le_of_ble_eq_true rfl)]; rfl, ?_⟩
    simp only [beq_self_eq_true, Bool.and_self, Bool.not_true, cond_false]
    refine ⟨ip, port, by rw [Hp.lda_of hto10 (Nat.le_of_ble_eq_true rfl)]; rfl, ?_⟩
    refine (pair_spec qb10.wf).mono ?_
    rintro _ b11 ⟨rfl, qb11⟩
    have l10 := qb10.le
    have hto11 := (qb11.same h.next (by omega)).trans hto10
    have q311 := (q39.trans qb10).trans qb11
    have rb11 := (TblR.rep _ _).stay wb3 rb3 q311.same
    refine ⟨7, 80, ip, port, rfl, ?_⟩
    have l311 := q311.le
    have hA2 : mget (s.A ++ [((kk : Int), (⟨1, 2, s.last + 1, false⟩ : Fi))]) (((0 : Nat) : Int)) = some ⟨1, 2, 1, false⟩ := by rw [mget_app, hA0]; rfl
    have hS2 : sfind (s.S ++ [⟨s.last + 1, o', kid 7 80 ip port⟩]) 1 = some x := by rw [sfind_app, hx]; rfl
    refine (accept_spec (fd := ((0 : Nat) : Int)) (id := s.last + 1) (fip := 7) (fport := 80) (tip := ip) (tport := port) qb11.wf rb11 (by simp only [List.length_append, List.length_singleton]; split at hlen <;> omega)).mono ?_
    rintro v b12 ⟨wb12, F12, ub12, hv⟩
    have eacc2 : ∀ s2 : TS, mget s2.A (((0 : Nat) : Int)) = some ⟨1, 2, 1, false⟩ → sfind s2.S 1 = some x → sfind s2.S (s.last + 1) ≠ none → accA s2 (((0 : Nat) : Int)) (s.last + 1) = 2 := fun s2 h1 h2 h3 => by
      unfold accA askC
      simp only [h1, if_true, h2, firstCode, cl36, cl38, hst, h3]
      simp
    rw [eacc2 _ hA2 hS2 (by rw [eS]; simp), if_neg (by omega)] at hv
    obtain ⟨rfl, rb12⟩ := hv
    refine ⟨_, _, rfl, ?_⟩
    simp only [bne_self_eq_false, cond_false]
    have l12 := ub12.le
    refine ⟨(by trivial), ⟨k + 1, _, F12, x, hw1, by omega, rb12, hmost, hA2, hS2, hst, ?_, fun y hy => ?_, ?_, wb12, (ub12.same h.next (by omega) hnF3).trans hto11, fun hm => (ub12.new _ hm).elim hnF3 (fun h => by omega), by omega⟩, dec⟩
    · simp only; rw [if_neg (by omega), hlast]; push_cast; omega
    · simp only at hy ⊢
      rw [if_neg (by omega)]
      rcases List.mem_append.1 hy with hy | hy
      · have := hids y hy; omega
      · rw [List.mem_singleton] at hy; subst hy; exact Int.le_refl _
    · simp only [List.length_append, List.length_singleton]
      push_cast
      rw [if_pos (by omega)]
      split at hlen <;> omega
  · rw [if_neg hfull, if_neg (by omega)] at hv
    obtain ⟨rfl, rb3⟩ := hv
    refine ⟨_, _, rfl, ?_⟩
    have hkN : N - 1 ≤ (k : Int) := by split at hlen <;> omega
    have c2 : ltI (↑k) (N - 1) = false := by rw [ltI_eq, decide_eq_false_iff_not]; omega
    rw [c2]
    simp only [Bool.not_false, cond_true, bne_self_eq_false, cond_false]
    refine ⟨(by trivial), ⟨k + 1, _, F3', x, hw1, by omega, rb3, hmost, hA0, hx, hst, ?_, fun y hy => ?_, ?_, wb3, hto3', hnF3, by omega⟩, dec⟩
    · simp only; rw [hlast]; push_cast; omega
    · have := hids y hy; simp only; omega
    · simp only; push_cast; split at hlen <;> (split <;> omega)
end Go.Vex.CallChildren

namespace Go.Proofs.Ytibmhpkmmcgncaa.callChildren
open Go.ChangeShapes Go.WideShapes Go.ChangeAt Go.RowKit Go.Vex Go.Vex.CallChildren
open Go.ChangeMaps (open_string shut_string)

theorem own : ownKnob Try.prog.godebug = none := by kernel_rfl

set_option maxRecDepth 100000 in
theorem lifted (os : Os) (started : os.Started) (H : Type) (enc : TypeId × Value → H) :
    ReturnsInHanded {} Try.checked os 3 .any (Rows.callChildrenSpec.pre6 enc Try.prog Try.f3 Rows.callChildrenRow.domain false) (Rows.callChildrenSpec.post enc Try.prog Try.f3 false true false false) := by
  refine returnsInHanded_of_change_sized (C := Try.checked) own started (by kernel_rfl) Try.func3
    (ChangeSpec.witness6 (enc := enc) (C := Try.checked) false ⟨#[], #[.agg #[.int .u32 0, .int .u16 0], .int .u8 0], []⟩ 8 (by kernel_rfl) (by kernel_rfl) (by kernel_rfl) (by kernel_rfl)) ?_
  intro W base args ds gs before hval0 hW hcnd hsz _
  have hval : ∀ (j : Nat) t v, Try.f3.params[j]? = some t → args[j]? = some v → Value.okWide Try.prog W .any base t v := hval0
  have hW' := hW
  obtain ⟨p, q, hA0, hV, rfl, hfz, hnd⟩ := hW
  have hA : DataW.TrodAll enc Try.prog W 0 (fun _ => true) true Try.f3.params.toList args.toList ds p := hA0
  rw [Try.params3] at hA hval hsz
  obtain ⟨v0, vs0, d0, ds0, p0, q0, hargs, rfl, rfl, h0, r0⟩ := trodAll_cons hA
  obtain ⟨v1, vs1, d1, ds1, p1, q1, rfl, rfl, rfl, h1, r1⟩ := trodAll_cons r0
  obtain ⟨rfl, rfl, rfl⟩ := trodAll_nil r1
  obtain rfl : args = #[v0, v1] := by cases args; simp_all
  obtain ⟨rfl, rfl⟩ := trodVars_none hV
  obtain ⟨cs0, rfl, hsz0, hc0⟩ := open_flat Try.underlying25 (ts := [22, 23]) (by kernel_rfl) (by kernel_rfl) (hval 0 25 v0 rfl rfl)
  obtain ⟨x0_0, hx0_0, ok0_0⟩ := hc0 0 22 rfl
  obtain ⟨a0_0, rfl, b0_0⟩ := cell_intB Try.underlying22 ok0_0
  obtain ⟨x0_1, hx0_1, ok0_1⟩ := hc0 1 23 rfl
  obtain ⟨a0_1, rfl, b0_1⟩ := cell_intB Try.underlying23 ok0_1
  obtain rfl := arr_of (l := [.int .u32 a0_0, .int .u16 a0_1]) hsz0 (fun j x hj => by
    match j, hj with
    | 0, hj => cases hj; exact hx0_0
    | 1, hj => cases hj; exact hx0_1
    | j + 2, hj => simp at hj)
  obtain ⟨a1, rfl, rfl, rfl, w1⟩ := open_int Try.underlying5 (hval 1 5 v1 rfl rfl) h1
  refine (XCalls.true' (Sat.none W fun _ => ⟨0, 0, 0, 0⟩) (vs := [.agg [.int .u32 a0_0, .int .u16 a0_1], .int .u8 a1]) ⟨_, _, rfl, ⟨_, rfl, ⟨_, _, rfl, rfl, ⟨_, _, rfl, rfl, rfl⟩⟩⟩, ⟨_, _, rfl, rfl, rfl⟩⟩ (law_calls a0_0 b0_0 a0_1 b0_1 a1 w1)).mono fun e W' ⟨he, hb⟩ => ?_
  subst he
  exact ⟨_, rfl, post_true (by kernel_rfl) hW' hb rfl (fun gs hg => by subst hg; rfl) (tb := 4) rfl Try.underlying4 (by decide +kernel)⟩

theorem over : Rows.callChildrenRow.holds Try.pinned (OpenSpec.ofChange Rows.callChildrenSpec) :=
  OpenClaim.holds_of_wide 3 Try.f3 rfl rfl rfl rfl rfl rfl rfl ⟨rfl, rfl, rfl, rfl, rfl⟩ rfl rfl rfl rfl rfl (by kernel_rfl) Try.func3 (by kernel_rfl)
    (of_decide_eq_true (by kernel_rfl)) (by unfold Func.isWrapper; first | (rw [if_pos (by decide +kernel)]; kernel_rfl) | (rw [if_neg (by decide +kernel)]; exact ⟨rfl, rfl⟩))
    (fun os started H enc _ => lifted os started H enc)

theorem proved : Rows.CallChildrenSaid :=
  over
#print axioms proved
end Go.Proofs.Ytibmhpkmmcgncaa.callChildren

