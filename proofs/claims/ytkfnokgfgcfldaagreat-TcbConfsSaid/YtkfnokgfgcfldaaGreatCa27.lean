/-
  An end of a connection (layer 27) on the heap: the kinds of its cells, and what the small functions ask of them.
-/
import Derived.Test.YtkfnokgfgcfldaaGreatVexFF
import Derived.Test.YtkfnokgfgcfldaaGreatTab27
import Derived.Test.YtkfnokgfgcfldaaGreatXa27
set_option linter.unusedVariables false
set_option linter.unusedSimpArgs false
namespace Go.Vex.Tcb
open Go.Proofs

/-- what lies below b stays -/
structure Ab (b : Nat) (h h' : Hp) : Prop where
  same : ∀ j, j < b → h'.get j = h.get j
  le : h.next ≤ h'.next
  wf : h'.wf

theorem Ab.refl {b : Nat} {h : Hp} (hw : h.wf) : Ab b h h := ⟨fun _ _ => rfl, Nat.le_refl _, hw⟩
theorem Ab.trans {b : Nat} {h h' h'' : Hp} (q : Ab b h h') (r : Ab b h' h'') : Ab b h h'' := ⟨fun j hj => by rw [r.same j hj, q.same j hj], Nat.le_trans q.le r.le, r.wf⟩
theorem Ab.alloc {b : Nat} {h : Hp} (hw : h.wf) (hb : b ≤ h.next) (o : O) : Ab b h (h.alloc o) := ⟨fun j hj => Hp.get_alloc_ne (by omega), by rw [Hp.alloc_next]; omega, hw.alloc⟩
theorem Ab.set {b : Nat} {h : Hp} (hw : h.wf) {t : Nat} (hb : b ≤ t) (ht : t < h.next) (o : O) : Ab b h (h.set t o) := ⟨fun j hj => Hp.get_set_ne (by omega), Nat.le_refl _, hw.set ht⟩

theorem splice1 (c : List V) (o : Nat) (v : V) (h : o < c.length) : splice c o [v] = c.set o v := by
  unfold splice
  rw [List.set_eq_take_append_cons_drop, if_pos h]
  simp

theorem st1 {h : Hp} {t o e : Nat} {L : List V} (hg : h.get t = some (.row L e false)) (ho : o < L.length) (v : V) : h.st t o [v] = some (h.set t (.row (L.set o v) e false)) := by
  rw [Hp.st_of hg (by simp only [List.length_singleton]; omega), splice1 L o v ho]

/-- the kinds of an end's cells -/
def tZ : List V := [.int .u32 0, .int .u16 0, .int .u32 0, .int .u16 0, .int .u32 0, .int .i64 0, .int .i64 0, .int .i64 0, .int .i64 0, .bool false, .int .i64 0, .int .i64 0, .int .i64 0, .int .i64 0,
  .int .i64 0, .int .u8 0, .int .u8 0, .bool false, .ptr none, .ptr none, .ptr none, .ptr none, .bool false, .bool false, .bool false, .bool false, .bool false, .bool false, .bool false, .int .u32 0, .bool false, .int .i64 0, .int .i64 0, .int .u32 0, .int .u32 0, .int .u32 0, .bool false, .int .i64 0,
  .int .i64 0, .int .i64 0, .int .i64 0, .int .i64 0, .int .i64 0, .int .i64 0, .int .i64 0, .bool false, .int .u32 0, .int .i64 0, .slc none 0 true]

theorem shp_len : ∀ {zs vs : List V}, shpBs zs vs = true → vs.length = zs.length
  | [], [], _ => rfl
  | [], _ :: _, h => by simp [shpBs] at h
  | _ :: _, [], h => by simp [shpBs] at h
  | z :: zs, v :: vs, h => by
    simp only [shpBs, Bool.and_eq_true] at h
    rw [List.length_cons, List.length_cons, shp_len h.2]

theorem shp_get : ∀ {zs vs : List V} {o : Nat} {z : V}, shpBs zs vs = true → zs[o]? = some z → ∃ v, vs[o]? = some v ∧ shpB z v = true
  | [], _, _, _, _, h => by simp at h
  | _ :: _, [], _, _, h, _ => by simp [shpBs] at h
  | a :: zs, v :: vs, 0, z, h, hz => by
    simp only [shpBs, Bool.and_eq_true] at h
    simp at hz; subst hz
    exact ⟨v, rfl, h.1⟩
  | a :: zs, v :: vs, o + 1, z, h, hz => by
    simp only [shpBs, Bool.and_eq_true] at h
    simpa using shp_get (o := o) h.2 (by simpa using hz)

theorem shp_set : ∀ {zs vs : List V} {o : Nat} {z v : V}, shpBs zs vs = true → zs[o]? = some z → shpB z v = true → shpBs zs (vs.set o v) = true
  | [], _, _, _, _, _, h, _ => by simp at h
  | _ :: _, [], _, _, _, h, _, _ => by simp [shpBs] at h
  | a :: zs, x :: vs, 0, z, v, h, hz, hv => by
    simp only [shpBs, Bool.and_eq_true] at h
    simp at hz; subst hz
    simp only [List.set_cons_zero, shpBs, Bool.and_eq_true]
    exact ⟨hv, h.2⟩
  | a :: zs, x :: vs, o + 1, z, v, h, hz, hv => by
    simp only [shpBs, Bool.and_eq_true] at h
    simp only [List.set_cons_succ, shpBs, Bool.and_eq_true]
    exact ⟨h.1, shp_set h.2 (by simpa using hz) hv⟩

section
variable {L zs : List V} (hs : shpBs zs L = true)
include hs
theorem kI {o : Nat} {k : IntKind} {n : Int} (h : zs[o]? = some (.int k n)) : ∃ m, L[o]? = some (.int k m) := by
  obtain ⟨v, hv, e⟩ := shp_get hs h
  cases v <;> simp [shpB] at e
  subst e
  exact ⟨_, hv⟩
theorem kB {o : Nat} {b : Bool} (h : zs[o]? = some (.bool b)) : ∃ m, L[o]? = some (.bool m) := by
  obtain ⟨v, hv, e⟩ := shp_get hs h
  cases v <;> simp [shpB] at e
  exact ⟨_, hv⟩
theorem kP {o : Nat} {b : Option (Nat × Nat)} (h : zs[o]? = some (.ptr b)) : ∃ m, L[o]? = some (.ptr m) := by
  obtain ⟨v, hv, e⟩ := shp_get hs h
  cases v <;> simp [shpB] at e
  exact ⟨_, hv⟩
theorem kS {o : Nat} {b : List UInt8} (h : zs[o]? = some (.str b)) : ∃ m, L[o]? = some (.str m) := by
  obtain ⟨v, hv, e⟩ := shp_get hs h
  cases v <;> simp [shpB] at e
  exact ⟨_, hv⟩
end

/-- an end that has said no more than its SYN -/
structure TcI (L : List V) (inn : Option Nat) (rt : Nat) : Prop where
  shp : shpBs tZ L = true
  syned : L[22]? = some (.bool false)
  inn : L[19]? = some (.ptr (inn.map fun q => (q, 0)))
  rto : L[20]? = some (.ptr (some (rt, 0)))
  over : L[16]? = some (.int .u8 0)
  state : ∃ n, L[15]? = some (.int .u8 n) ∧ (n = 2 ∨ n = 3)
  owed : L[36]? = some (.bool false)

theorem TcI.len {L : List V} {inn : Option Nat} {rt : Nat} (i : TcI L inn rt) : L.length = 49 := shp_len i.shp

theorem TcI.set {L : List V} {inn : Option Nat} {rt : Nat} (i : TcI L inn rt) {o : Nat} {v z : V} (hz : tZ[o]? = some z) (hv : shpB z v = true) (ho : o ≠ 22 ∧ o ≠ 19 ∧ o ≠ 20 ∧ o ≠ 16 ∧ o ≠ 15 ∧ o ≠ 36) : TcI (L.set o v) inn rt := by
  have g : ∀ p, p ≠ o → (L.set o v)[p]? = L[p]? := fun p hp => List.getElem?_set_ne (Ne.symm hp)
  obtain ⟨a, b, c, d, e, f⟩ := ho
  exact ⟨shp_set i.shp hz hv, by rw [g _ (Ne.symm a)]; exact i.syned, by rw [g _ (Ne.symm b)]; exact i.inn, by rw [g _ (Ne.symm c)]; exact i.rto, by rw [g _ (Ne.symm d)]; exact i.over, by rw [g _ (Ne.symm e)]; exact i.state, by rw [g _ (Ne.symm f)]; exact i.owed⟩

/-- an end at t -/
def TcR (t : Nat) (L : List V) (h : Hp) : Prop := h.get t = some (.row L 1 false)

section
variable {h : Hp} {t rt : Nat} {L : List V} {inn : Option Nat}

theorem una_spec (hg : TcR t L h) (i : TcI L inn rt) : XCalls Tryz.prog 77 [.ptr (some (t, 0))] h fun v h' => (∃ n, v = .int .u32 n) ∧ h' = h := by
  obtain ⟨n, hn⟩ := kI i.shp (o := 4) rfl
  apply x77; unfold X77
  exact ⟨false, by rw [Hp.ld_of hg]; exact i.syned, n, by rw [Hp.ld_of hg]; exact hn, ⟨_, rfl⟩, rfl⟩

theorem nxt_spec (hg : TcR t L h) (i : TcI L inn rt) : XCalls Tryz.prog 78 [.ptr (some (t, 0))] h fun v h' => (∃ n, v = .int .u32 n) ∧ h' = h := by
  obtain ⟨n, hn⟩ := kI i.shp (o := 4) rfl
  apply x78; unfold X78
  exact ⟨false, by rw [Hp.ld_of hg]; exact i.syned, n, by rw [Hp.ld_of hg]; exact hn, ⟨_, rfl⟩, rfl⟩

theorem flight_spec (hg : TcR t L h) (i : TcI L inn rt) : XCalls Tryz.prog 93 [.ptr (some (t, 0))] h fun v h' => (∃ n, v = .int .i64 n) ∧ h' = h := by
  apply x93; unfold X93
  refine (nxt_spec hg i).mono ?_
  rintro _ _ ⟨⟨a, rfl⟩, rfl⟩
  refine ⟨_, rfl, (una_spec hg i).mono ?_⟩
  rintro _ _ ⟨⟨b, rfl⟩, rfl⟩
  exact ⟨_, rfl, ⟨_, rfl⟩, rfl⟩

theorem sends_spec (hg : TcR t L h) (i : TcI L inn rt) : XCalls Tryz.prog 94 [.ptr (some (t, 0))] h fun v h' => v = .bool false ∧ h' = h := by
  obtain ⟨n, hn, hs⟩ := i.state
  apply x94; unfold X94
  refine ⟨n, by rw [Hp.ld_of hg]; exact hn, ?_⟩
  rcases hs with rfl | rfl <;> exact ⟨rfl, rfl⟩

/-- the other one's stream, at its beginning -/
def InR (inn : Option Nat) (h : Hp) : Prop := ∀ q, inn = some q → ∃ a m b, h.get q = some (.row [.int .u32 a, .slc none 0 true, m, .int .i64 0, .int .i64 b, .bool false, .int .u32 0] 1 false)

theorem next_spec (hg : TcR t L h) (i : TcI L inn rt) (hi : InR inn h) : XCalls Tryz.prog 79 [.ptr (some (t, 0))] h fun v h' => (∃ n, v = .int .u32 n) ∧ h' = h := by
  obtain ⟨b, hb⟩ := kB i.shp (o := 27) rfl
  apply x79; unfold X79
  refine ⟨_, by rw [Hp.ld_of hg]; exact i.inn, ?_⟩
  cases inn with
  | none => exact ⟨⟨_, rfl⟩, rfl⟩
  | some q =>
    obtain ⟨a, m, b', hq⟩ := hi q rfl
    have h114 : XCalls Tryz.prog 114 [.ptr (some (q, 0))] h fun v h' => v = .int .u32 a ∧ h' = h := by
      apply x114; unfold X114
      exact ⟨a, by rw [Hp.ld_of hq]; rfl, rfl, rfl⟩
    refine ⟨b, by rw [Hp.ld_of hg]; exact hb, ?_⟩
    cases b with
    | true =>
      refine ⟨_, by rw [Hp.ld_of hg]; exact i.inn, h114.mono ?_⟩
      rintro _ _ ⟨rfl, rfl⟩
      exact ⟨_, rfl, ⟨_, rfl⟩, rfl⟩
    | false =>
      refine ⟨_, by rw [Hp.ld_of hg]; exact i.inn, h114.mono ?_⟩
      rintro _ _ ⟨rfl, rfl⟩
      exact ⟨_, rfl, ⟨_, rfl⟩, rfl⟩

/-- its own window, in a SYN -/
theorem room_spec (hg : TcR t L h) (i : TcI L inn rt) (hi : InR inn h) : XCalls Tryz.prog 117 [.ptr (some (t, 0)), .bool true] h fun v h' => (∃ n, v = .int .u16 n) ∧ h' = h := by
  obtain ⟨n, hn⟩ := kI i.shp (o := 8) rfl
  obtain ⟨b, hb⟩ := kB i.shp (o := 30) rfl
  apply x117; unfold X117
  refine ⟨n, by rw [Hp.ld_of hg]; exact hn, fun vs g => (∃ x, vs = [.int .i64 x]) ∧ g = h, ⟨_, by rw [Hp.ld_of hg]; exact i.inn, ?_⟩, ?_⟩
  · cases inn with
    | none => exact ⟨rfl, ⟨_, rfl⟩, rfl⟩
    | some q =>
      obtain ⟨a, m, b', hq⟩ := hi q rfl
      refine ⟨_, by rw [Hp.ld_of hg]; exact i.inn, ?_⟩
      apply x75; unfold X75
      exact ⟨b', by rw [Hp.ld_of hq]; rfl, none, 0, true, by rw [Hp.ld_of hq]; rfl, _, rfl, rfl, ⟨_, rfl⟩, rfl⟩
  · rintro bs x h ⟨⟨y, hy⟩, rfl⟩
    refine ⟨b, by rw [Hp.ld_of hg]; exact hb, ?_⟩
    cases b <;> exact ⟨⟨_, rfl⟩, rfl⟩

/-- the timer of one that was never asked -/
theorem time_spec {r : Nat} (hr : h.get r = some (.row [.int .i64 0, .int .i64 0, .bool false, .int .i64 0] 1 false)) : XCalls Tryz.prog 39 [.ptr (some (r, 0))] h fun v h' => (∃ n, v = .int .i64 n) ∧ h' = h := by
  apply x39; unfold X39
  refine ⟨fun vs g => vs = [.int .i64 1000] ∧ g = h, ⟨false, by rw [Hp.ld_of hr]; rfl, rfl, rfl, rfl⟩, ?_⟩
  rintro bs x h ⟨hx, rfl⟩
  cases hx
  refine ⟨0, by rw [Hp.ld_of hr]; rfl, ?_⟩
  apply x81; unfold X81
  refine ⟨fun vs g => vs = [.int .i64 1000, .int .i64 0] ∧ g = h, fun _ _ => 0, ⟨rfl, rfl, rfl⟩, ?_⟩
  rintro bs2 a b h ⟨hx, rfl⟩
  cases hx
  exact ⟨_, rfl, ⟨_, rfl⟩, rfl⟩
end
end Go.Vex.Tcb
