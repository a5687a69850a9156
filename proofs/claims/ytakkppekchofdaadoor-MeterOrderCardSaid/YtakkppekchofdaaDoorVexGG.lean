/-
  VEX, part GG: what is looked up in lists that stand for maps.
-/
import Derived.Test.YtakkppekchofdaaDoorVexFF
set_option linter.unusedSimpArgs false
set_option linter.unusedVariables false
namespace Go.Vex

section
variable {κ β : Type} [DecidableEq κ]

theorem mget_cons (x : κ × β) (l : List (κ × β)) (k : κ) : mget (x :: l) k = if k = x.1 then some x.2 else mget l k := by
  unfold mget
  by_cases h : k = x.1 <;> simp [h]

theorem mget_mput : ∀ (l : List (κ × β)) (k : κ) (v : β) (k' : κ), mget (mput l k v) k' = if k' = k then some v else mget l k'
  | [], k, v, k' => by simp only [mput, mget_cons]
  | x :: l, k, v, k' => by
    simp only [mput]
    by_cases h : k = x.1
    · rw [if_pos h, mget_cons, mget_cons]
      by_cases h2 : k' = x.1
      · simp [h2, h]
      · have : k' ≠ k := by rw [h]; exact h2
        simp [h2, this]
    · rw [if_neg h, mget_cons, mget_cons, mget_mput l k v k']
      by_cases h2 : k' = x.1
      · have : k' ≠ k := fun e => h (e ▸ h2)
        simp [h2, this, Ne.symm h]
      · simp [h2]

theorem mput_none : ∀ (l : List (κ × β)) (k : κ) (v : β), mget l k = none → mput l k v = l ++ [(k, v)]
  | [], k, v, _ => rfl
  | x :: l, k, v, h => by
    rw [mget_cons] at h
    by_cases e : k = x.1
    · simp [e] at h
    · simp only [e, if_false] at h
      simp only [mput, if_neg e, mput_none l k v h, List.cons_append]

theorem mput_some : ∀ (l : List (κ × β)) (k : κ) (v : β), mget l k ≠ none → (mput l k v).map Prod.fst = l.map Prod.fst
  | [], k, v, h => absurd rfl h
  | x :: l, k, v, h => by
    rw [mget_cons] at h
    by_cases e : k = x.1
    · simp [mput, e]
    · simp only [e, if_false] at h
      simp only [mput, if_neg e, List.map_cons, mput_some l k v h]

theorem mget_mem : ∀ (l : List (κ × β)) (k : κ), mget l k ≠ none ↔ k ∈ l.map Prod.fst
  | [], k => by simp [mget]
  | x :: l, k => by
    rw [mget_cons, List.map_cons, List.mem_cons, ← mget_mem l k]
    by_cases e : k = x.1 <;> simp [e]

theorem mdel_sub : ∀ (l : List (κ × β)) (k : κ), List.Sublist (mdel l k) l
  | [], k => .slnil
  | x :: l, k => by
    simp only [mdel]
    split
    · exact List.sublist_cons_self x l
    · exact (mdel_sub l k).cons_cons x

theorem mget_mdel : ∀ (l : List (κ × β)) (k k' : κ), k' ≠ k → mget (mdel l k) k' = mget l k'
  | [], k, k', _ => rfl
  | x :: l, k, k', h => by
    simp only [mdel]
    by_cases e : k = x.1
    · rw [if_pos e, mget_cons, if_neg (by rw [← e]; exact h)]
    · rw [if_neg e, mget_cons, mget_cons, mget_mdel l k k' h]

theorem mdel_len : ∀ (l : List (κ × β)) (k : κ), mget l k ≠ none → (mdel l k).length + 1 = l.length
  | [], k, h => absurd rfl h
  | x :: l, k, h => by
    rw [mget_cons] at h
    simp only [mdel]
    by_cases e : k = x.1
    · rw [if_pos e]; rfl
    · simp only [e, if_false] at h
      rw [if_neg e, List.length_cons, List.length_cons, mdel_len l k h]
end

theorem mget_self {κ β : Type} [DecidableEq κ] : ∀ (l : List (κ × β)) (k : κ), (l.map Prod.fst).Nodup → mget (mdel l k) k = none
  | [], k, _ => rfl
  | x :: l, k, h => by
    rw [List.map_cons, List.nodup_cons] at h
    simp only [mdel]
    by_cases e : k = x.1
    · rw [if_pos e]
      cases hq : mget l k with
      | none => rfl
      | some v => exact absurd ((mget_mem l k).1 (by rw [hq]; simp)) (by rw [e]; exact h.1)
    · rw [if_neg e, mget_cons, if_neg e, mget_self l k h.2]

theorem nodup_of_map {α β : Type} {f : α → β} {l : List α} (h : (l.map f).Nodup) : l.Nodup := by
  rw [List.nodup_iff_pairwise_ne, List.pairwise_map] at h
  exact h.imp fun hne e => hne (by rw [e])

theorem mget_isSome {κ β : Type} [DecidableEq κ] {l : List (κ × β)} {k : κ} : (mget l k).isSome = true ↔ ∃ x ∈ l, x.1 = k := by
  have : (mget l k).isSome = true ↔ mget l k ≠ none := by cases mget l k <;> simp
  rw [this, mget_mem, List.mem_map]

theorem mget_in {κ β : Type} [DecidableEq κ] : ∀ {l : List (κ × β)} {k : κ} {v : β}, mget l k = some v → (k, v) ∈ l
  | [], k, v, h => by cases h
  | x :: l, k, v, h => by
    rw [mget_cons] at h
    by_cases e : k = x.1
    · rw [if_pos e] at h; cases h; rw [e]; simp
    · rw [if_neg e] at h; exact List.mem_cons_of_mem _ (mget_in h)

end Go.Vex
