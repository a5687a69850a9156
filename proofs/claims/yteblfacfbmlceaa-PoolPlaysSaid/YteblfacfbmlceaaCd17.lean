/-
  Contracts of the reference's pool (layer 17).
-/
import Derived.Test.YteblfacfbmlceaaVexGG
import Derived.Test.YteblfacfbmlceaaTab17
import Derived.Test.YteblfacfbmlceaaXa17
import Derived.Test.YteblfacfbmlceaaCa17
import Derived.Test.YteblfacfbmlceaaCb17
import Derived.Test.YteblfacfbmlceaaXc17
import Derived.Test.YteblfacfbmlceaaCc17
import Derived.Test.YteblfacfbmlceaaXd17
set_option linter.unusedVariables false
set_option linter.unusedSimpArgs false
namespace Go.Vex
open Go.Proofs

def b3row (x : B3) : List V := [.int .u64 x.1, .str x.2.1, .str x.2.2]
def b3rows (C : List B3) : List (List V) := C.map b3row

theorem b3rows_len (C : List B3) : (b3rows C).length = C.length := by simp [b3rows]
theorem b3rows_all (C : List B3) : ∀ r ∈ b3rows C, r.length = 3 := fun r hr => by
  obtain ⟨x, _, rfl⟩ := List.mem_map.1 hr; rfl
theorem b3rows_get (C : List B3) (k : Nat) : (b3rows C)[k]? = (C[k]?).map b3row := by simp [b3rows]

def RefP (r : Nat) (most last : Int) (C : List B3) (h : Hp) (F : List Nat) : Prop :=
  ∃ a f G, h.get r = some (.row [.int .i64 most, .int .u64 last, .slc a C.length f] 1 false) ∧ Own 3 a C.length (b3rows C) h G ∧ F = r :: G ∧ r ∉ G

theorem RefP.rep (r : Nat) (most last : Int) (C : List B3) : Rep (RefP r most last C) where
  loc := fun h h' F hs ⟨a, f, G, h1, h2, h3, h4⟩ => by
    subst h3
    exact ⟨a, f, G, by rw [hs r (by simp)]; exact h1, (Own.rep _ _ _ _).loc h h' _ (fun j hj => hs j (by simp [hj])) h2, rfl, h4⟩
  dom := fun h F ⟨a, f, G, h1, h2, h3, h4⟩ j hj => by
    subst h3
    rcases List.mem_cons.1 hj with rfl | hj
    · exact ⟨_, h1, rfl⟩
    · exact (Own.rep _ _ _ _).dom h _ h2 _ hj

theorem t40s : ∃ ti, T 40 = some ti ∧ ti.d = .slc 48 := ⟨_, rfl, rfl⟩
theorem t48s : ∃ ei, T 48 = some ei ∧ ei.size = 3 ∧ ei.bytes = 40 ∧ zok ei = true := ⟨_, rfl, rfl, rfl, rfl⟩

theorem cfind_cons (x : B3) (C : List B3) (id : Int) : cfind (x :: C) id = if id = x.1 then some x else cfind C id := by
  unfold cfind
  rw [List.find?_cons]
  by_cases e : id = x.1 <;> simp [e]

/-- what 'At' says -/
def AtIs (C : List B3) (id : Int) (z : Int) : Prop := (z = -1 ∧ cfind C id = none) ∨ ∃ (k : Nat) (x : B3), z = k ∧ C[k]? = some x ∧ cfind C id = some x

theorem at_spec {h : Hp} {F : List Nat} {r : Nat} {most last id : Int} {C : List B3} (pr : RefP r most last C h F) (hC : C.length ≤ 4096) :
    XCalls Try.prog 18 [.ptr (some (r, 0)), .int .u64 id] h fun v h' => h' = h ∧ ∃ z, v = .int .i64 z ∧ AtIs C id z := by
  obtain ⟨a, f, G, h1, h2, rfl, h4⟩ := pr
  refine XCalls.cps fun K hK => ?_
  apply x18; unfold X18
  refine ⟨fun vs h' => match vs with
    | [.int _ i] => h' = h ∧ ∃ k : Nat, i = k ∧ k ≤ C.length ∧ cfind C id = cfind (C.drop k) id
    | _ => False, fun vs _ => match vs with
    | [.int _ i] => C.length - i.toNat
    | _ => 0, ⟨(by trivial), rfl, 0, rfl, Nat.zero_le _, rfl⟩, ?_⟩
  rintro bs i g ⟨rfl, k, rfl, hk, hcf⟩
  refine ⟨a, C.length, f, by rw [Hp.ld_of h1]; rfl, ?_⟩
  cases c : ltI (↑k) (↑C.length) with
  | false =>
    rw [ltI_eq, decide_eq_false_iff_not] at c
    refine hK _ _ ⟨rfl, _, rfl, .inl ⟨rfl, ?_⟩⟩
    rw [hcf, List.drop_of_length_le (by omega)]; rfl
  | true =>
    rw [ltI_eq, decide_eq_true_eq] at c
    have hk' : k < C.length := by omega
    obtain ⟨q, o, row, rfl, hrow, _, hld, _⟩ := h2.ld hk'
    rw [b3rows_get, List.getElem?_eq_getElem hk'] at hrow
    cases hrow
    have hw1 : IntKind.i64.wrap ((k : Int) + 1) = ((k + 1 : Nat) : Int) := wrap_succ (n := 5000) (by omega) (by omega)
    refine ⟨some (q, o), C.length, f, by rw [Hp.ld_of h1]; rfl, ⟨by omega, c⟩, C[k].1, hld 0 (by omega), ?_⟩
    rw [List.drop_eq_getElem_cons hk', cfind_cons] at hcf
    by_cases e : C[k].1 = id
    · have : (C[k].1 == id) = true := by simp [e]
      simp only [this, cond_true]
      rw [if_pos e.symm] at hcf
      exact hK _ _ ⟨rfl, _, rfl, .inr ⟨k, C[k], rfl, List.getElem?_eq_getElem hk', hcf⟩⟩
    · have : (C[k].1 == id) = false := by simp [e]
      simp only [this, cond_false]
      rw [if_neg (fun h => e h.symm)] at hcf
      refine ⟨(by trivial), ⟨(by trivial), k + 1, hw1, by omega, hcf⟩, ?_⟩
      show C.length - Int.toNat (IntKind.i64.wrap ((k : Int) + 1)) < C.length - Int.toNat (k : Int)
      rw [hw1]; simp only [Int.toNat_natCast]; omega

theorem rtake_spec {h : Hp} {F : List Nat} {r : Nat} {most last : Int} {who text : List UInt8} {C : List B3} (hw : h.wf) (pr : RefP r most last C h F) (hC : C.length ≤ 4096) (hb : 0 ≤ last ∧ last < 1000000) :
    XCalls Try.prog 22 [.ptr (some (r, 0)), .str who, .str text] h fun v h' => ∃ F', Upd h h' F F' ∧
      if takeCode most C.length who text = 0 then v = .tup [.int .u64 (last + 1), .int .i64 0] ∧ RefP r most (last + 1) (C ++ [(last + 1, who, text)]) h' F'
      else v = .tup [.int .u64 0, .int .i64 (takeCode most C.length who text)] ∧ RefP r most last C h' F' := by
  have pr0 := pr
  obtain ⟨a, f, G, h1, h2, rfl, h4⟩ := pr
  refine XCalls.cps fun K hK => ?_
  apply x22; unfold X22
  have quiet : ∀ e : Int, takeCode most C.length who text = e → e ≠ 0 → K (.tup [.int .u64 0, .int .i64 e]) h := fun e he h0 => by
    refine hK _ _ ⟨_, Upd.refl h _, ?_⟩
    rw [if_neg (by rw [he]; exact h0), he]
    exact ⟨rfl, pr0⟩
  by_cases c1 : who = []
  · have : (who == []) = true := by simp [c1]
    simp only [this, cond_true]
    exact quiet 2 (by simp [takeCode, c1]) (by omega)
  have e1 : (who == []) = false := by simp [c1]
  simp only [e1, cond_false]
  by_cases c2 : 65549 < text.length
  · have : ltI 65549 (↑text.length) = true := by rw [ltI_eq, decide_eq_true_eq]; omega
    simp only [this, cond_true]
    exact quiet 4 (by simp [takeCode, c1, c2]) (by omega)
  have e2 : ltI 65549 (↑text.length) = false := by rw [ltI_eq, decide_eq_false_iff_not]; omega
  simp only [e2, cond_false]
  refine ⟨a, C.length, f, by rw [Hp.ld_of h1]; rfl, most, by rw [Hp.ld_of h1]; rfl, ?_⟩
  by_cases c3 : most ≤ C.length
  · have : ltI (↑C.length) most = false := by rw [ltI_eq, decide_eq_false_iff_not]; omega
    simp only [this, Bool.not_false, cond_true]
    exact quiet 6 (by simp [takeCode, c1, c2, c3]) (by omega)
  have e3 : ltI (↑C.length) most = true := by rw [ltI_eq, decide_eq_true_eq]; omega
  simp only [e3, Bool.not_true, cond_false]
  have hwr : IntKind.u64.wrap (last + 1) = last + 1 := wrap_of (by simp [IntKind.min, IntKind.max, IntKind.signed, IntKind.bits]; omega)
  refine ⟨last, by rw [Hp.ld_of h1]; rfl, _, Hp.st_of h1 (Nat.le_of_ble_eq_true rfl), ?_⟩
  generalize hg1 : h.set r _ = g1
  have hr1 : g1.get r = some (.row [.int .i64 most, .int .u64 (last + 1), .slc a C.length f] 1 false) := by rw [← hg1, hwr]; exact Hp.get_set_self
  have hs1 : ∀ j, j ≠ r → g1.get j = h.get j := fun j hj => by rw [← hg1]; exact Hp.get_set_ne hj
  have hn1 : g1.next = h.next := by rw [← hg1]; rfl
  have hw1 : g1.wf := by rw [← hg1]; exact hw.set (hw.lt h1)
  clear hg1
  have hrlt := hw.lt h1
  have hGlt : ∀ j ∈ G, j < h.next := fun j hj => (Own.rep _ _ _ _).lt hw h2 hj
  refine ⟨a, C.length, f, by rw [Hp.ld_of hr1]; rfl, last + 1, by rw [Hp.ld_of hr1]; rfl, ?_⟩
  rintro g2 rfl
  have hr2 : (g1.alloc (.row [.int .u64 (last + 1), .str who, .str text] 3 false)).get r = _ := hw1.get_alloc hr1
  refine ⟨⟨a, C.length, f, by rw [Hp.ld_of hr2]; rfl, rfl⟩, (by trivial), (by trivial), (by trivial), (by trivial), ?_⟩
  have ho2 : Own 3 a C.length (b3rows C) (g1.alloc (.row [.int .u64 (last + 1), .str who, .str text] 3 false)) G :=
    (Own.rep _ _ _ _).loc _ _ _ (fun j hj => by rw [Hp.get_alloc_ne (by have := hGlt j hj; omega), hs1 j (fun e => h4 (e ▸ hj))]) h2
  obtain ⟨ti, ht, hd⟩ := t40s
  obtain ⟨ei, he, hsz, hby, hzk⟩ := t48s
  obtain ⟨g3, hx, ho3, u3, w3⟩ := ho2.app (f := f) hw1.alloc ht hd ht (fun k e => by rw [hd] at e; cases e) he hsz (by omega) hzk (xnews_one Hp.get_alloc_self rfl) (by simp) (by simp) (by rw [hby]; simp; omega) (by simp; omega)
  refine ⟨_, _, _, g3, hx, (by trivial), ?_⟩
  have hr3 : g3.get r = some (.row [.int .i64 most, .int .u64 (last + 1), .slc a C.length f] 1 false) := by rw [u3.same r (by simp only [Hp.alloc_next]; omega) h4]; exact hr2
  refine ⟨_, Hp.st_of hr3 (Nat.le_of_ble_eq_true rfl), last + 1, by rw [Hp.ld_of Hp.get_set_self]; rfl, ?_⟩
  have hc : takeCode most C.length who text = 0 := by simp [takeCode, c1, c2, c3]
  have hnx : (g1.alloc (.row [.int .u64 (last + 1), .str who, .str text] 3 false)).next = h.next + 1 := by rw [Hp.alloc_next, hn1]
  rw [hnx] at ho3 hx u3
  refine hK _ _ ⟨r :: [h.next + 1], ⟨fun j hj hF => ?_, fun j hj => ?_, ?_⟩, ?_⟩
  · simp only [List.mem_cons, not_or] at hF
    rw [Hp.get_set_ne hF.1, u3.same j (by rw [hnx]; omega) hF.2, Hp.get_alloc_ne (by omega), hs1 j hF.1]
  · simp only [List.mem_cons, List.mem_singleton, List.not_mem_nil, or_false] at hj ⊢
    rcases hj with hj | hj
    · exact .inl (.inl hj)
    · exact .inr (by omega)
  · have := u3.le
    rw [hnx] at this
    simp only [Hp.set_next]; omega
  · rw [if_pos hc]
    refine ⟨rfl, some (h.next + 1, 0), false, [h.next + 1], ?_, ?_, rfl, by simp; omega⟩
    · rw [Hp.get_set_self, List.length_append, hnx]; rfl
    · rw [List.length_append]
      refine (Own.rep _ _ _ _).loc _ _ _ (fun j hj => Hp.get_set_ne (by rw [List.mem_singleton] at hj; omega)) ?_
      have : b3rows (C ++ [(last + 1, who, text)]) = b3rows C ++ [[V.int .u64 (last + 1), .str who, .str text]] := by simp [b3rows, b3row]
      rw [this]; exact ho3

theorem cset_at {C : List B3} (hn : (C.map Prod.fst).Nodup) {k : Nat} {x : B3} (hk : C[k]? = some x) (f : B3 → B3) : cset C x.1 f = C.set k (f x) := by
  induction C generalizing k with
  | nil => simp at hk
  | cons y C ih =>
    rw [List.map_cons, List.nodup_cons] at hn
    cases k with
    | zero =>
      simp at hk; subst hk
      simp only [cset, List.map_cons, if_true, List.set_cons_zero]
      congr 1
      conv => rhs; rw [← List.map_id C]
      apply List.map_congr_left
      intro z hz
      have : ¬ z.1 = y.1 := fun e => hn.1 (e ▸ List.mem_map_of_mem hz)
      rw [if_neg this]; rfl
    | succ k =>
      simp at hk
      have := ih hn.2 hk
      simp only [cset] at this
      simp only [cset, List.map_cons, List.set_cons_succ]
      have hne : ¬ y.1 = x.1 := fun e => hn.1 (e ▸ List.mem_map_of_mem (List.mem_of_getElem? hk))
      rw [if_neg hne, this]

/-- one row is written, through a copy -/
theorem RefP.put {g : Hp} {r : Nat} {most last : Int} {C : List B3} {F : List Nat} (hw : g.wf) (pr : RefP r most last C g F) {k : Nat} {x : B3} (hk : C[k]? = some x) (y : B3) :
    ∃ q o f g', g.ld r 2 = some (.slc (some (q, o)) C.length f) ∧ g.lda q (o + k * 3) 3 = some (.agg (b3row x)) ∧ g.st q (o + k * 3) (b3row y) = some g' ∧ RefP r most last (C.set k y) g' F ∧ Upd g g' F F := by
  obtain ⟨a, f, G, h1, h2, rfl, h4⟩ := pr
  have hkl := (List.getElem?_eq_some_iff.1 hk).1
  obtain ⟨q, o, row, rfl, hrow, _, _, hlda⟩ := h2.ld hkl
  rw [b3rows_get, hk] at hrow
  cases hrow
  obtain ⟨q', o', g', e, hst, ho', hs, hn, hwf⟩ := h2.stN hw hkl (row := b3row y) rfl
  cases e
  have hG : G = [q] := h2.2.2.1
  have hrq : r ≠ q := fun e => h4 (by rw [hG, e]; simp)
  refine ⟨q, o, f, g', by rw [Hp.ld_of h1]; rfl, hlda, hst, ⟨some (q, o), f, G, ?_, ?_, rfl, h4⟩, ⟨fun j hj hF => hs j fun e => hF (List.mem_cons_of_mem _ e), fun j hj => .inl hj, by omega⟩⟩
  · rw [List.length_set, hs r (by rw [hG]; simpa using hrq)]; exact h1
  · rw [List.length_set]
    have : b3rows (C.set k y) = (b3rows C).set k (b3row y) := by simp [b3rows, List.map_set]
    rw [this]; exact ho'
end Go.Vex
