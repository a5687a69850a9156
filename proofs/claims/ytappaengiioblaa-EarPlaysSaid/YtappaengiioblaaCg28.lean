/-
  Ear: lists, and what holds of them.
-/
import Derived.Test.YtappaengiioblaaVexFF
import Derived.Test.YtappaengiioblaaTab28
import Derived.Test.YtappaengiioblaaXe28
import Derived.Test.YtappaengiioblaaXf28
import Derived.Test.YtappaengiioblaaCe28
import Derived.Test.YtappaengiioblaaXs28
import Derived.Test.YtappaengiioblaaXk28
import Derived.Test.YtappaengiioblaaCsa28
import Derived.Test.YtappaengiioblaaCsb28
import Derived.Test.YtappaengiioblaaCsc28
import Derived.Test.YtappaengiioblaaCsd28
import Derived.Test.YtappaengiioblaaCse28
import Derived.Test.YtappaengiioblaaCf28
set_option linter.unusedVariables false
set_option linter.unusedSimpArgs false
namespace Go.Vex.Ear
open Go.Proofs

/-! ### lists -/

section
variable {κ β : Type} [DecidableEq κ]

theorem mget_cons (x : κ × β) (l : List (κ × β)) (k : κ) : mget (x :: l) k = if k = x.1 then some x.2 else mget l k := by
  unfold mget
  by_cases h : k = x.1 <;> simp [h]

theorem mget_mput : ∀ (l : List (κ × β)) (k : κ) (v : β) (k' : κ), mget (mput l k v) k' = if k' = k then some v else mget l k'
  | [], k, v, k' => by simp only [mput, mget_cons]
  | x :: l, k, v, k' => by
    simp only [mput]
    by_cases h : k = x.1
    · rw [if_pos h, mget_cons, mget_cons]
      by_cases h2 : k' = x.1
      · simp [h2, h]
      · have : k' ≠ k := by rw [h]; exact h2
        simp [h2, this]
    · rw [if_neg h, mget_cons, mget_cons, mget_mput l k v k']
      by_cases h2 : k' = x.1
      · have : k' ≠ k := fun e => h (e ▸ h2)
        simp [h2, this, Ne.symm h]
      · simp [h2]

theorem mput_none : ∀ (l : List (κ × β)) (k : κ) (v : β), mget l k = none → mput l k v = l ++ [(k, v)]
  | [], k, v, _ => rfl
  | x :: l, k, v, h => by
    rw [mget_cons] at h
    by_cases e : k = x.1
    · simp [e] at h
    · simp only [e, if_false] at h
      simp only [mput, if_neg e, mput_none l k v h, List.cons_append]

theorem mput_some : ∀ (l : List (κ × β)) (k : κ) (v : β), mget l k ≠ none → (mput l k v).map Prod.fst = l.map Prod.fst
  | [], k, v, h => absurd rfl h
  | x :: l, k, v, h => by
    rw [mget_cons] at h
    by_cases e : k = x.1
    · simp [mput, e]
    · simp only [e, if_false] at h
      simp only [mput, if_neg e, List.map_cons, mput_some l k v h]

theorem mget_mem : ∀ (l : List (κ × β)) (k : κ), mget l k ≠ none ↔ k ∈ l.map Prod.fst
  | [], k => by simp [mget]
  | x :: l, k => by
    rw [mget_cons, List.map_cons, List.mem_cons, ← mget_mem l k]
    by_cases e : k = x.1 <;> simp [e]

theorem mdel_sub : ∀ (l : List (κ × β)) (k : κ), List.Sublist (mdel l k) l
  | [], k => .slnil
  | x :: l, k => by
    simp only [mdel]
    split
    · exact List.sublist_cons_self x l
    · exact (mdel_sub l k).cons_cons x

theorem mget_mdel : ∀ (l : List (κ × β)) (k k' : κ), k' ≠ k → mget (mdel l k) k' = mget l k'
  | [], k, k', _ => rfl
  | x :: l, k, k', h => by
    simp only [mdel]
    by_cases e : k = x.1
    · rw [if_pos e, mget_cons, if_neg (by rw [← e]; exact h)]
    · rw [if_neg e, mget_cons, mget_cons, mget_mdel l k k' h]

theorem mdel_len : ∀ (l : List (κ × β)) (k : κ), mget l k ≠ none → (mdel l k).length + 1 = l.length
  | [], k, h => absurd rfl h
  | x :: l, k, h => by
    rw [mget_cons] at h
    simp only [mdel]
    by_cases e : k = x.1
    · rw [if_pos e]; rfl
    · simp only [e, if_false] at h
      rw [if_neg e, List.length_cons, List.length_cons, mdel_len l k h]
end

theorem filter_len {D : List Int} (h : D.Nodup) (s : Int) : (s ∈ D → (D.filter fun x => decide (x ≠ s)).length + 1 = D.length) ∧ (s ∉ D → D.filter (fun x => decide (x ≠ s)) = D) := by
  have e : D.filter (fun x => decide (x ≠ s)) = D.erase s := by
    rw [h.erase_eq_filter]; apply List.filter_congr; intro x _; rw [Bool.eq_iff_iff]; simp
  constructor
  · intro hs
    rw [e, List.length_erase_of_mem hs]
    have := List.length_pos_of_mem hs
    omega
  · intro hs
    rw [e, List.erase_of_not_mem hs]

/-! ### what holds -/

structure Inv (bk : Int) (A : List (Int × Ch)) (D : List Int) : Prop where
  nA : (A.map Prod.fst).Nodup
  nD : D.Nodup
  sub : ∀ x ∈ D, ∃ p, mget A x = some (p, true)
  op : (A.length : Int) - D.length ≤ bk
  dn : (D.length : Int) ≤ bk

section
variable {bk s : Int} {A : List (Int × Ch)} {D : List Int} {p : Pr}

theorem Inv.le (i : Inv bk A D) : D.length ≤ A.length := by
  have := i.nD.length_le_of_subset (l₂ := A.map Prod.fst) fun x hx => by
    obtain ⟨p, hp⟩ := i.sub x hx
    exact (mget_mem A x).1 (by rw [hp]; simp)
  simpa using this

theorem Inv.done (i : Inv bk A D) (hg : mget A s = some (p, false)) (hl : (D.length : Int) < bk) : Inv bk (mput A s (p, true)) (D ++ [s]) := by
  have hk := mput_some A s (p, true) (by rw [hg]; simp)
  have hlen : (mput A s (p, true)).length = A.length := by have := congrArg List.length hk; simpa using this
  have hs : s ∉ D := fun h => by
    obtain ⟨p', hp⟩ := i.sub s h
    rw [hg] at hp; cases hp
  refine ⟨by rw [hk]; exact i.nA, ?_, fun x hx => ?_, ?_, ?_⟩
  · rw [List.nodup_append]
    exact ⟨i.nD, by simp, fun a ha b hb => by rw [List.mem_singleton] at hb; subst hb; exact fun e => hs (e ▸ ha)⟩
  · rw [mget_mput]
    by_cases e : x = s
    · exact ⟨p, by rw [if_pos e]⟩
    · rw [if_neg e]
      rcases List.mem_append.1 hx with hx | hx
      · exact i.sub x hx
      · exact absurd (List.mem_singleton.1 hx) e
  · have := i.op; rw [hlen]; simp; omega
  · simp; omega

theorem Inv.gone (i : Inv bk A D) (hg : (mget A s).isSome = true) : Inv bk (mdel A s) (D.filter fun x => decide (x ≠ s)) := by
  have hl := mdel_len A s (by intro e; rw [e] at hg; cases hg)
  obtain ⟨f1, f2⟩ := filter_len i.nD s
  have hop := i.op
  have hdn := i.dn
  refine ⟨i.nA.sublist ((mdel_sub A s).map _), i.nD.sublist List.filter_sublist, fun x hx => ?_, ?_, ?_⟩
  · obtain ⟨h1, h2⟩ := List.mem_filter.1 hx
    rw [mget_mdel A s x (of_decide_eq_true h2)]
    exact i.sub x h1
  · by_cases hs : s ∈ D
    · have := f1 hs; omega
    · rw [f2 hs]; omega
  · by_cases hs : s ∈ D
    · have := f1 hs; omega
    · rw [f2 hs]; omega

theorem Inv.not (i : Inv bk A D) (hg : (mget A s).isSome = false) : D.filter (fun x => decide (x ≠ s)) = D :=
  (filter_len i.nD s).2 fun h => by
    obtain ⟨p, hp⟩ := i.sub s h
    rw [hp] at hg; cases hg

theorem Inv.child (i : Inv bk A D) (hg : mget A s = none) (hl : (A.length : Int) - D.length < bk) : Inv bk (mput A s (p, false)) D := by
  rw [mput_none A s _ hg]
  refine ⟨?_, i.nD, fun x hx => ?_, ?_, i.dn⟩
  · rw [List.map_append, List.nodup_append]
    refine ⟨i.nA, by simp, fun a ha b hb => ?_⟩
    simp only [List.map_cons, List.map_nil, List.mem_singleton] at hb
    subst hb
    exact fun e => (mget_mem A a).2 ha (e ▸ hg)
  · rw [← mput_none A s (p, false) hg, mget_mput]
    have : x ≠ s := fun e => by
      obtain ⟨p', hp⟩ := i.sub x hx
      rw [e, hg] at hp; cases hp
    rw [if_neg this]
    exact i.sub x hx
  · simp; omega
end


theorem mget_self {κ β : Type} [DecidableEq κ] : ∀ (l : List (κ × β)) (k : κ), (l.map Prod.fst).Nodup → mget (mdel l k) k = none
  | [], k, _ => rfl
  | x :: l, k, h => by
    rw [List.map_cons, List.nodup_cons] at h
    simp only [mdel]
    by_cases e : k = x.1
    · rw [if_pos e]
      cases hq : mget l k with
      | none => rfl
      | some v => exact absurd ((mget_mem l k).1 (by rw [hq]; simp)) (by rw [e]; exact h.1)
    · rw [if_neg e, mget_cons, if_neg e, mget_self l k h.2]

theorem nodup_of_map {α β : Type} {f : α → β} {l : List α} (h : (l.map f).Nodup) : l.Nodup := by
  rw [List.nodup_iff_pairwise_ne, List.pairwise_map] at h
  exact h.imp fun hne e => hne (by rw [e])

theorem mem_setk {R : List Kd} {k : Nat} {y a : Kd} {s : Int} (hn : (R.map Kd.s).Nodup) (hk : R[k]? = some y) (hy : y.s = s) (ha : a.s = s) (x : Kd) : x ∈ R.set k a ↔ x = a ∨ (x ∈ R ∧ x.s ≠ s) := by
  obtain ⟨hkl, e⟩ := List.getElem?_eq_some_iff.1 hk
  constructor
  · intro hx
    obtain ⟨j, hj, ej⟩ := List.getElem_of_mem hx
    rw [List.length_set] at hj
    by_cases hjk : j = k
    · subst hjk; rw [List.getElem_set_self] at ej; exact .inl ej.symm
    · rw [List.getElem_set_ne (Ne.symm hjk)] at ej
      refine .inr ⟨ej ▸ List.getElem_mem hj, fun hs => hjk ?_⟩
      have h1 : (R.map Kd.s)[j]'(by simpa using hj) = (R.map Kd.s)[k]'(by simpa using hkl) := by
        rw [List.getElem_map, List.getElem_map, ej, e, hs, hy]
      exact (List.getElem_inj hn).1 h1
  · rintro (rfl | ⟨hx, hs⟩)
    · exact List.mem_set hkl _
    · obtain ⟨j, hj, ej⟩ := List.getElem_of_mem hx
      have hjk : k ≠ j := fun e' => by subst e'; rw [e] at ej; exact hs (by rw [← ej]; exact hy)
      rw [← ej]
      have : (R.set k a)[j]'(by rw [List.length_set]; exact hj) = R[j] := List.getElem_set_ne hjk _
      rw [← this]; exact List.getElem_mem _

structure Rel (bk : Int) (A : List (Int × Ch)) (Ps : List (Pr × Int)) (D : List Int) (R : List Kd) (cnt : Int) : Prop where
  inv : Inv bk A D
  nS : (R.map Kd.s).Nodup
  nP : (R.map Kd.p).Nodup
  nPs : (Ps.map Prod.fst).Nodup
  z : ∀ y ∈ R, y.s ≠ 0
  lenA : A.length = R.length
  la : ∀ y ∈ R, mget A y.s = some (y.p, decide (0 < y.d))
  na : ∀ s, (∀ y ∈ R, y.s ≠ s) → mget A s = none
  lp : ∀ y ∈ R, mget Ps y.p = some y.s
  np : ∀ p, (∀ y ∈ R, y.p ≠ p) → mget Ps p = none
  ex : ∃ E : List Kd, E.Pairwise (fun a b => a.d < b.d) ∧ D = E.map Kd.s ∧ ∀ y, y ∈ E ↔ y ∈ R ∧ 0 < y.d
  cn : 0 ≤ cnt ∧ ∀ y ∈ R, y.d ≤ cnt

section
variable {bk s cnt : Int} {A : List (Int × Ch)} {Ps : List (Pr × Int)} {D : List Int} {R : List Kd} {p : Pr} {y : Kd}

theorem Rel.dlen (i : Rel bk A Ps D R cnt) : D.length = (dn R).length := by
  obtain ⟨E, h1, rfl, h3⟩ := i.ex
  have nE : E.Nodup := by rw [List.nodup_iff_pairwise_ne]; exact h1.imp fun h e => by rw [e] at h; omega
  have nR : (dn R).Nodup := (nodup_of_map i.nS).sublist List.filter_sublist
  have a := nE.length_le_of_subset (l₂ := dn R) fun x hx => by
    obtain ⟨k1, k2⟩ := (h3 x).1 hx
    exact List.mem_filter.2 ⟨k1, decide_eq_true k2⟩
  have b := nR.length_le_of_subset (l₂ := E) fun x hx => by
    obtain ⟨k1, k2⟩ := List.mem_filter.1 hx
    exact (h3 x).2 ⟨k1, of_decide_eq_true k2⟩
  rw [List.length_map]; omega

theorem Rel.uniq (i : Rel bk A Ps D R cnt) {x : Kd} (hx : x ∈ R) (hy : y ∈ R) (e : x.s = y.s) : x = y := inj_nodup (f := Kd.s) i.nS hx hy e

theorem Rel.child (i : Rel bk A Ps D R cnt) (hs : s ≠ 0) (h1 : ∀ y ∈ R, y.s ≠ s) (h2 : ∀ y ∈ R, y.p ≠ p) (hl : (A.length : Int) - D.length < bk) : Rel bk (mput A s (p, false)) (mput Ps p s) D (R ++ [⟨p, s, 0⟩]) cnt := by
  have ga := i.na s h1
  have gp := i.np p h2
  refine ⟨i.inv.child ga hl, ?_, ?_, ?_, fun y hy => ?_, ?_, fun y hy => ?_, fun s' hs' => ?_, fun y hy => ?_, fun p' hp' => ?_, ?_, i.cn.1, fun y hy => ?_⟩
  · rw [List.map_append, List.nodup_append]
    refine ⟨i.nS, by simp, fun a ha b hb => ?_⟩
    simp only [List.map_cons, List.map_nil, List.mem_singleton] at hb
    obtain ⟨y, hy, rfl⟩ := List.mem_map.1 ha
    subst hb; exact h1 y hy
  · rw [List.map_append, List.nodup_append]
    refine ⟨i.nP, by simp, fun a ha b hb => ?_⟩
    simp only [List.map_cons, List.map_nil, List.mem_singleton] at hb
    obtain ⟨y, hy, rfl⟩ := List.mem_map.1 ha
    subst hb; exact h2 y hy
  · rw [mput_none Ps p _ gp, List.map_append, List.nodup_append]
    refine ⟨i.nPs, by simp, fun a ha b hb => ?_⟩
    simp only [List.map_cons, List.map_nil, List.mem_singleton] at hb
    subst hb
    exact fun e => (mget_mem Ps a).2 ha (e ▸ gp)
  · rcases List.mem_append.1 hy with hy | hy
    · exact i.z y hy
    · rw [List.mem_singleton] at hy; subst hy; exact hs
  · rw [mput_none A s _ ga, List.length_append, List.length_append, i.lenA]; rfl
  · rw [mget_mput]
    rcases List.mem_append.1 hy with hy | hy
    · rw [if_neg (h1 y hy)]; exact i.la y hy
    · rw [List.mem_singleton] at hy; subst hy; simp
  · rw [mget_mput, if_neg (fun e => hs' ⟨p, s, 0⟩ (by simp) e.symm)]
    exact i.na s' fun y hy => hs' y (by simp [hy])
  · rw [mget_mput]
    rcases List.mem_append.1 hy with hy | hy
    · rw [if_neg (h2 y hy)]; exact i.lp y hy
    · rw [List.mem_singleton] at hy; subst hy; simp
  · rw [mget_mput, if_neg (fun e => hp' ⟨p, s, 0⟩ (by simp) e.symm)]
    exact i.np p' fun y hy => hp' y (by simp [hy])
  · obtain ⟨E, k1, k2, k3⟩ := i.ex
    refine ⟨E, k1, k2, fun y => ?_⟩
    rw [k3]
    constructor
    · rintro ⟨a, b⟩; exact ⟨by simp [a], b⟩
    · rintro ⟨a, b⟩
      rcases List.mem_append.1 a with a | a
      · exact ⟨a, b⟩
      · rw [List.mem_singleton] at a; subst a; exact absurd b (show ¬ ((0:Int) < 0) by decide)
  · rcases List.mem_append.1 hy with hy | hy
    · exact i.cn.2 y hy
    · rw [List.mem_singleton] at hy; subst hy; exact i.cn.1

theorem Rel.done (i : Rel bk A Ps D R cnt) {k : Nat} (hk : R[k]? = some y) (hs : y.s = s) (hd : ¬ 0 < y.d) (hl : (D.length : Int) < bk) : Rel bk (mput A s (y.p, true)) Ps (D ++ [s]) (R.set k ⟨y.p, y.s, cnt + 1⟩) (cnt + 1) := by
  have hy := List.mem_of_getElem? hk
  have hkl := (List.getElem?_eq_some_iff.1 hk).1
  have hm := mem_setk (a := ⟨y.p, y.s, cnt + 1⟩) i.nS hk hs hs
  have ga : mget A s = some (y.p, false) := by rw [← hs, i.la y hy, decide_eq_false hd]
  have hc := i.cn
  have hmap : ∀ {β : Type} (f : Kd → β), f ⟨y.p, y.s, cnt + 1⟩ = f y → (R.set k ⟨y.p, y.s, cnt + 1⟩).map f = R.map f := fun f hf => by
    rw [List.map_set, hf]
    exact nodup_set (R.map f) k (f y) (by rw [List.getElem?_map, hk]; rfl)
  refine ⟨i.inv.done ga hl, by rw [hmap Kd.s rfl]; exact i.nS, by rw [hmap Kd.p rfl]; exact i.nP, i.nPs, fun x hx => ?_, ?_, fun x hx => ?_, fun s' hs' => ?_, fun x hx => ?_, fun p' hp' => ?_, ?_, by omega, fun x hx => ?_⟩
  · rcases (hm x).1 hx with rfl | ⟨h, _⟩
    · exact i.z y hy
    · exact i.z x h
  · have := congrArg List.length (mput_some A s (y.p, true) (by rw [ga]; simp))
    rw [List.length_map, List.length_map] at this
    rw [this, List.length_set, i.lenA]
  · rw [mget_mput]
    rcases (hm x).1 hx with rfl | ⟨h, hne⟩
    · rw [if_pos hs, decide_eq_true (show 0 < cnt + 1 by omega)]
    · rw [if_neg hne]; exact i.la x h
  · have h1 : s' ≠ s := fun e => hs' _ ((hm _).2 (.inl rfl)) (by rw [e]; exact hs)
    rw [mget_mput, if_neg h1]
    refine i.na s' fun x hx e => ?_
    exact hs' x ((hm x).2 (.inr ⟨hx, by rw [e]; exact h1⟩)) e
  · rcases (hm x).1 hx with rfl | ⟨h, _⟩
    · exact i.lp y hy
    · exact i.lp x h
  · refine i.np p' fun x hx e => ?_
    by_cases hxs : x.s = s
    · have : x = y := i.uniq hx hy (by rw [hxs, hs])
      exact hp' _ ((hm _).2 (.inl rfl)) (by rw [← e, this])
    · exact hp' x ((hm x).2 (.inr ⟨hx, hxs⟩)) e
  · obtain ⟨E, k1, k2, k3⟩ := i.ex
    refine ⟨E ++ [⟨y.p, y.s, cnt + 1⟩], ?_, by rw [k2, List.map_append, ← hs]; rfl, fun x => ?_⟩
    · rw [List.pairwise_append]
      refine ⟨k1, by simp, fun a ha b hb => ?_⟩
      rw [List.mem_singleton] at hb; subst hb
      have := hc.2 a ((k3 a).1 ha).1
      show a.d < cnt + 1; omega
    · rw [List.mem_append, List.mem_singleton, k3, hm]
      constructor
      · rintro (⟨a, b⟩ | rfl)
        · refine ⟨.inr ⟨a, fun e => ?_⟩, b⟩
          have : x = y := i.uniq a hy (by rw [e, hs])
          exact hd (this ▸ b)
        · exact ⟨.inl rfl, by show 0 < cnt + 1; omega⟩
      · rintro ⟨rfl | ⟨a, b⟩, c⟩
        · exact .inr rfl
        · exact .inl ⟨a, c⟩
  · rcases (hm x).1 hx with rfl | ⟨h, _⟩
    · exact Int.le_refl _
    · have := hc.2 x h; omega

theorem Rel.gone (i : Rel bk A Ps D R cnt) (hy : y ∈ R) (hs : y.s = s) : Rel bk (mdel A s) (mdel Ps y.p) (D.filter fun x => decide (x ≠ s)) (wo R s) cnt := by
  have ga : (mget A s).isSome = true := by rw [← hs, i.la y hy]; rfl
  have hm : ∀ x, x ∈ wo R s ↔ x ∈ R ∧ x.s ≠ s := fun x => by unfold wo; rw [List.mem_filter, decide_eq_true_eq]
  have hpne : ∀ x ∈ R, x.s ≠ s → x.p ≠ y.p := fun x hx hne e => hne (by rw [inj_nodup (f := Kd.p) i.nP hx hy e]; exact hs)
  refine ⟨i.inv.gone ga, i.nS.sublist (List.filter_sublist.map _), i.nP.sublist (List.filter_sublist.map _), i.nPs.sublist ((mdel_sub _ _).map _), fun x hx => i.z x ((hm x).1 hx).1, ?_, fun x hx => ?_, fun s' hs' => ?_, fun x hx => ?_, fun p' hp' => ?_, ?_, i.cn.1, fun x hx => i.cn.2 x ((hm x).1 hx).1⟩
  · have h1 := mdel_len A s (by intro e; rw [e] at ga; cases ga)
    obtain ⟨k, hk, e⟩ := List.getElem_of_mem hy
    have h2 := cut_wo (s := s) i.nS (y := y) (k := k) (by rw [List.getElem?_eq_getElem hk, e]) hs
    have h3 := congrArg List.length h2
    rw [List.length_append, List.length_take, List.length_drop] at h3
    have := i.lenA
    omega
  · obtain ⟨h1, h2⟩ := (hm x).1 hx
    rw [mget_mdel A s x.s h2]; exact i.la x h1
  · by_cases e : s' = s
    · subst e; exact mget_self A s' i.inv.nA
    · rw [mget_mdel A s s' e]
      exact i.na s' fun x hx e2 => hs' x ((hm x).2 ⟨hx, by rw [e2]; exact e⟩) e2
  · obtain ⟨h1, h2⟩ := (hm x).1 hx
    rw [mget_mdel Ps y.p x.p (hpne x h1 h2)]; exact i.lp x h1
  · by_cases e : p' = y.p
    · subst e; exact mget_self Ps _ i.nPs
    · rw [mget_mdel Ps y.p p' e]
      refine i.np p' fun x hx e2 => ?_
      refine hp' x ((hm x).2 ⟨hx, fun e3 => e ?_⟩) e2
      have : x = y := i.uniq hx hy (by rw [e3, hs])
      rw [← e2, this]
  · obtain ⟨E, k1, k2, k3⟩ := i.ex
    refine ⟨E.filter fun x => decide (x.s ≠ s), k1.sublist List.filter_sublist, by rw [k2, List.filter_map]; rfl, fun x => ?_⟩
    rw [List.mem_filter, k3, hm, decide_eq_true_eq]
    constructor
    · rintro ⟨⟨a, b⟩, c⟩; exact ⟨⟨a, c⟩, b⟩
    · rintro ⟨⟨a, c⟩, b⟩; exact ⟨⟨a, b⟩, c⟩
end

end Go.Vex.Ear
