/-
  VEX, part BB: rows of single cells that are sorted in place: contents as functions of the place, exchanges, orders.
-/
import Derived.Test.YtkfnokgfgcfldaaGreatVexAA
set_option linter.unusedSimpArgs false
set_option linter.unusedVariables false
namespace Go.Vex

theorem wr {x : Int} (h1 : -9223372036854775808 ≤ x) (h2 : x ≤ 9223372036854775807) : IntKind.i64.wrap x = x :=
  wrap_of ⟨by simpa [IntKind.min, IntKind.signed, IntKind.bits] using h1, by simpa [IntKind.max, IntKind.signed, IntKind.bits] using h2⟩

/-- how many bits a byte has -/
def bitTab : List UInt8 := (List.range 256).map fun i => UInt8.ofNat (if i = 0 then 0 else Nat.log2 i + 1)

section
variable {α : Type}

def upd (d : Int → α) (i : Int) (v : α) : Int → α := fun k => if k = i then v else d k
/-- two places turned -/
def sw (d : Int → α) (i j : Int) : Int → α := fun k => if k = j then d i else if k = i then d j else d k

theorem sw_eq (d : Int → α) (i j : Int) : upd (upd d i (d j)) j (d i) = sw d i j := by
  funext k; unfold upd sw; rfl

theorem sw_l (d : Int → α) (i j : Int) : sw d i j i = d j := by
  unfold sw; split
  · rename_i h; rw [h]
  · simp
theorem sw_r (d : Int → α) (i j : Int) : sw d i j j = d i := by simp [sw]
theorem sw_ne (d : Int → α) {i j k : Int} (h1 : k ≠ i) (h2 : k ≠ j) : sw d i j k = d k := by simp [sw, h1, h2]

/-- exchanges of places from a on, ahead of b -/
inductive Sw (a b : Int) (d : Int → α) : (Int → α) → Prop
  | refl : Sw a b d d
  | step {d' : Int → α} (i j : Int) : Sw a b d d' → a ≤ i → i < b → a ≤ j → j < b → Sw a b d (sw d' i j)

theorem Sw.trans {a b : Int} {d d' d'' : Int → α} (h : Sw a b d d') (h' : Sw a b d' d'') : Sw a b d d'' := by
  induction h' with
  | refl => exact h
  | step i j _ h1 h2 h3 h4 ih => exact .step i j ih h1 h2 h3 h4

theorem Sw.mono {a b a' b' : Int} {d d' : Int → α} (h : Sw a b d d') (ha : a' ≤ a) (hb : b ≤ b') : Sw a' b' d d' := by
  induction h with
  | refl => exact .refl
  | step i j _ h1 h2 h3 h4 ih => exact .step i j ih (by omega) (by omega) (by omega) (by omega)

theorem Sw.out {a b : Int} {d d' : Int → α} (h : Sw a b d d') {k : Int} (hk : k < a ∨ b ≤ k) : d' k = d k := by
  induction h with
  | refl => rfl
  | step i j _ h1 h2 h3 h4 ih => rw [sw_ne _ (by omega) (by omega)]; exact ih

theorem Sw.all {a b : Int} {d d' : Int → α} (h : Sw a b d d') (p : α → Prop) (hp : ∀ k, a ≤ k → k < b → p (d k)) : ∀ k, a ≤ k → k < b → p (d' k) := by
  induction h with
  | refl => exact hp
  | step i j _ h1 h2 h3 h4 ih =>
    intro k hk1 hk2
    unfold sw
    split
    · exact ih i h1 h2
    · split
      · exact ih j h3 h4
      · exact ih k hk1 hk2

def lst (n : Nat) (d : Int → α) : List α := (List.range n).map fun i : Nat => d (i : Int)

theorem lst_length (n : Nat) (d : Int → α) : (lst n d).length = n := by simp [lst]
theorem lst_get (n : Nat) (d : Int → α) {i : Nat} (h : i < n) : (lst n d)[i]? = some (d i) := by simp [lst, h]
theorem lst_set (n : Nat) (d : Int → α) {i : Nat} (h : i < n) (v : α) : (lst n d).set i v = lst n (upd d i v) := by
  apply List.ext_getElem?
  intro k
  by_cases hk : k < n
  · rw [lst_get _ _ hk, List.getElem?_set]
    unfold upd
    by_cases e : i = k
    · subst e; simp [lst_length, h]
    · rw [if_neg e, lst_get _ _ hk, if_neg (by omega)]
  · rw [List.getElem?_eq_none (by simp [lst_length]; omega), List.getElem?_eq_none (by simp [lst_length]; omega)]

theorem lst_ofFn (l : List α) (x : α) : lst l.length (fun i => l.getD i.toNat x) = l := by
  apply List.ext_getElem?
  intro k
  by_cases hk : k < l.length
  · rw [lst_get _ _ hk]; simp [hk, List.getD]
  · rw [List.getElem?_eq_none (by simp [lst_length]; omega), List.getElem?_eq_none (by omega)]

theorem perm_set {l : List α} : ∀ {l : List α} {i j : Nat} {x y : α}, l[i]? = some x → l[j]? = some y → ((l.set i y).set j x).Perm l := by
  intro l
  induction l with
  | nil => intro i j x y h; simp at h
  | cons z l ih =>
    intro i j x y hi hj
    cases i with
    | zero =>
      simp only [List.getElem?_cons_zero, Option.some.injEq] at hi
      subst hi
      cases j with
      | zero => simp
      | succ j =>
        simp only [List.getElem?_cons_succ] at hj
        simp only [List.set_cons_zero, List.set_cons_succ]
        obtain ⟨hl, hy⟩ := List.getElem?_eq_some_iff.1 hj
        rw [List.set_eq_take_append_cons_drop, if_pos hl]
        have h1 : l = l.take j ++ y :: l.drop (j + 1) := by
          rw [← hy, List.getElem_cons_drop, List.take_append_drop]
        refine List.Perm.trans ?_ (List.Perm.of_eq (congrArg (z :: ·) h1.symm))
        refine (List.perm_middle.cons y).trans ?_
        refine (List.Perm.swap _ _ _).trans ?_
        exact (List.perm_middle.symm).cons z
    | succ i =>
      simp only [List.getElem?_cons_succ] at hi
      cases j with
      | zero =>
        simp only [List.getElem?_cons_zero, Option.some.injEq] at hj
        subst hj
        simp only [List.set_cons_zero, List.set_cons_succ]
        obtain ⟨hl, hy⟩ := List.getElem?_eq_some_iff.1 hi
        rw [List.set_eq_take_append_cons_drop, if_pos hl]
        have h1 : l = l.take i ++ x :: l.drop (i + 1) := by
          rw [← hy, List.getElem_cons_drop, List.take_append_drop]
        refine List.Perm.trans ?_ (List.Perm.of_eq (congrArg (z :: ·) h1.symm))
        refine (List.perm_middle.cons x).trans ?_
        refine (List.Perm.swap _ _ _).trans ?_
        exact (List.perm_middle.symm).cons z
      | succ j =>
        simp only [List.getElem?_cons_succ] at hj
        simp only [List.set_cons_succ]
        exact (ih hi hj).cons z

theorem Sw.perm {n : Nat} {d d' : Int → α} (h : Sw 0 n d d') : (lst n d').Perm (lst n d) := by
  induction h with
  | refl => exact .refl _
  | @step d' i j _ h1 h2 h3 h4 ih =>
    obtain ⟨i, rfl⟩ := Int.eq_ofNat_of_zero_le h1
    obtain ⟨j, rfl⟩ := Int.eq_ofNat_of_zero_le h3
    have hi : i < n := by omega
    have hj : j < n := by omega
    rw [← sw_eq, ← lst_set n _ hj, ← lst_set n _ hi]
    exact (perm_set (l := []) (lst_get n d' hi) (lst_get n d' hj)).trans ih

/-! ### orders -/

structure Ordr (lt : α → α → Bool) : Prop where
  irr : ∀ x, lt x x = false
  asym : ∀ x y, lt x y = true → lt y x = false
  trans : ∀ x y z, lt y x = false → lt z y = false → lt z x = false

/-- rising, from a on, ahead of b -/
def Srt (lt : α → α → Bool) (a b : Int) (d : Int → α) : Prop := ∀ i j, a ≤ i → i < j → j < b → lt (d j) (d i) = false

/-- what stands ahead of a, and from b on, stands right; from A on, ahead of B -/
def Fix (lt : α → α → Bool) (A B a b : Int) (d : Int → α) : Prop := ∀ i j, A ≤ i → i < j → j < B → (i < a ∨ b ≤ j) → lt (d j) (d i) = false

theorem Fix.keep {lt : α → α → Bool} {A B a b : Int} {d d' : Int → α} (hf : Fix lt A B a b d) (hA : A ≤ a) (hB : b ≤ B) (hs : Sw a b d d') : Fix lt A B a b d' := by
  intro i j h1 h2 h3 h4
  by_cases hi : a ≤ i ∧ i < b
  · rw [hs.out (k := j) (.inr (by omega))]
    exact hs.all (fun x => lt (d j) x = false) (fun k hk1 hk2 => hf k j (by omega) (by omega) h3 (.inr (by omega))) i hi.1 hi.2
  · rw [hs.out (k := i) (by omega)]
    by_cases hj : a ≤ j ∧ j < b
    · exact hs.all (fun x => lt x (d i) = false) (fun k hk1 hk2 => hf i k h1 (by omega) (by omega) (.inl (by omega))) j hj.1 hj.2
    · rw [hs.out (k := j) (by omega)]
      exact hf i j h1 h2 h3 h4

theorem Fix.srt {lt : α → α → Bool} {A B a b : Int} {d : Int → α} (hf : Fix lt A B a b d) (hs : Srt lt a b d) : Srt lt A B d := by
  intro i j h1 h2 h3
  by_cases h : i < a ∨ b ≤ j
  · exact hf i j h1 h2 h3 h
  · exact hs i j (by omega) h2 (by omega)

/-! ### the row -/

variable {enc : α → V}

def Rw (enc : α → V) (q : Nat) (fr bk : List V) (n : Nat) (d : Int → α) (h : Hp) : Prop := h.get q = some (.row (fr ++ ((lst n d).map enc ++ bk)) 1 false)

structure SS (enc : α → V) (g : Hp) (q : Nat) (fr bk : List V) (n : Nat) (d : Int → α) (h : Hp) : Prop where
  row : Rw enc q fr bk n d h
  same : ∀ j, j ≠ q → j < g.next → h.get j = g.get j
  le : g.next ≤ h.next
  wf : h.wf

variable {g h : Hp} {q n : Nat} {fr bk : List V} {d : Int → α}

theorem SS.ld (s : SS enc g q fr bk n d h) {i : Int} (h0 : 0 ≤ i) (hn : i < n) : h.ld q (fr.length + i.toNat * 1) = some (enc (d i)) := by
  obtain ⟨i, rfl⟩ := Int.eq_ofNat_of_zero_le h0
  rw [Hp.ld_of s.row, Nat.mul_one, Int.toNat_natCast, List.getElem?_append_right (by omega), Nat.add_sub_cancel_left,
    List.getElem?_append_left (by simp [lst_length]; omega), List.getElem?_map, lst_get n d (by omega)]
  rfl

theorem splice_mid (fr l bk : List V) (i : Nat) (v : V) (h : i < l.length) : splice (fr ++ (l ++ bk)) (fr.length + i) [v] = fr ++ (l.set i v ++ bk) := by
  unfold splice
  rw [List.take_append, List.take_of_length_le (by omega), Nat.add_sub_cancel_left, List.take_append_of_le_length (by omega),
    show fr.length + i + [v].length = fr.length + (i + 1) from rfl, ← List.drop_drop, List.drop_left, List.drop_append_of_le_length (by omega), List.set_eq_take_append_cons_drop, if_pos h]
  simp

theorem SS.st (s : SS enc g q fr bk n d h) {i : Int} (h0 : 0 ≤ i) (hn : i < n) (v : α) : ∃ h', h.st q (fr.length + i.toNat * 1) [enc v] = some h' ∧ SS enc g q fr bk n (upd d i v) h' := by
  obtain ⟨i, rfl⟩ := Int.eq_ofNat_of_zero_le h0
  have hi : i < n := by omega
  refine ⟨_, Hp.st_of s.row (by simp [lst_length]; omega), ?_, fun j hj hg => ?_, s.le, s.wf.set (s.wf.lt s.row)⟩
  · unfold Rw
    rw [Hp.get_set_self]
    simp only [Int.toNat_natCast, Nat.mul_one]
    rw [splice_mid _ _ _ _ _ (by simp [lst_length]; omega), ← List.map_set, lst_set n d hi]
  · rw [Hp.get_set_ne hj]; exact s.same j hj hg

theorem SS.swap (s : SS enc g q fr bk n d h) {i j : Int} (hi0 : 0 ≤ i) (hin : i < n) (hj0 : 0 ≤ j) (hjn : j < n) :
    ∃ h1 h2, h.st q (fr.length + i.toNat * 1) [enc (d j)] = some h1 ∧ h1.st q (fr.length + j.toNat * 1) [enc (d i)] = some h2 ∧ SS enc g q fr bk n (sw d i j) h2 := by
  obtain ⟨h1, e1, s1⟩ := s.st hi0 hin (d j)
  obtain ⟨h2, e2, s2⟩ := s1.st hj0 hjn (d i)
  rw [sw_eq] at s2
  exact ⟨h1, h2, e1, e2, s2⟩

/-- something new beside -/
theorem SS.alloc (s : SS enc g q fr bk n d h) (o : O) : SS enc g q fr bk n d (h.alloc o) :=
  ⟨by unfold Rw; rw [Hp.get_alloc_ne (s.wf.ne s.row)]; exact s.row, fun j hj hg => by rw [Hp.get_alloc_ne (by have := s.le; omega)]; exact s.same j hj hg, Nat.le_succ_of_le s.le, s.wf.alloc⟩

/-- something beside is written, that was not there at first -/
theorem SS.beside (s : SS enc g q fr bk n d h) {i : Nat} {o o' : O} (hi : h.get i = some o') (hq : i ≠ q) (hg : g.next ≤ i) : SS enc g q fr bk n d (h.set i o) :=
  ⟨by unfold Rw; rw [Hp.get_set_ne (Ne.symm hq)]; exact s.row, fun j hj hl => by rw [Hp.get_set_ne (by omega)]; exact s.same j hj hl, s.le, s.wf.set (s.wf.lt hi)⟩
end
end Go.Vex
