/-
  What TableOne keeps (layer 23): the table against the two maps of the law.
-/
import Derived.Test.YteknlobdnjcdbaaVexFF
import Derived.Test.YteknlobdnjcdbaaVexGG
import Derived.Test.YteknlobdnjcdbaaTab23
import Derived.Test.YteknlobdnjcdbaaXa23
import Derived.Test.YteknlobdnjcdbaaCa23
import Derived.Test.YteknlobdnjcdbaaCb23
import Derived.Test.YteknlobdnjcdbaaCc23
import Derived.Test.YteknlobdnjcdbaaXb23
import Derived.Test.YteknlobdnjcdbaaCe23
import Derived.Test.YteknlobdnjcdbaaCf23
import Derived.Test.YteknlobdnjcdbaaCi23
set_option linter.unusedVariables false
set_option linter.unusedSimpArgs false
namespace Go.Vex.Tbl
open Go.Proofs

section
variable {κ β : Type} [DecidableEq κ]

theorem mput_nodup {l : List (κ × β)} (h : (l.map Prod.fst).Nodup) (k : κ) (v : β) : ((mput l k v).map Prod.fst).Nodup := by
  cases hg : mget l k with
  | none =>
    rw [mput_none _ _ _ hg, List.map_append, List.nodup_append]
    refine ⟨h, by simp, fun x hx y hy => ?_⟩
    simp only [List.map_cons, List.map_nil, List.mem_singleton] at hy
    subst hy
    exact fun e => (mget_mem l x).2 hx (e ▸ hg)
  | some x => rw [mput_some _ _ _ (by rw [hg]; simp)]; exact h

theorem mput_len (l : List (κ × β)) (k : κ) (v : β) : (mput l k v).length ≤ l.length + 1 := by
  cases hg : mget l k with
  | none => rw [mput_none _ _ _ hg]; simp
  | some x =>
    have := congrArg List.length (mput_some l k v (by rw [hg]; simp))
    simp only [List.length_map] at this
    omega

theorem mget_of {l : List (κ × β)} (hn : (l.map Prod.fst).Nodup) {z : κ × β} (hz : z ∈ l) : mget l z.1 = some z.2 := by
  induction l with
  | nil => cases hz
  | cons x l ih =>
    rw [List.map_cons, List.nodup_cons] at hn
    rw [mget_cons]
    rcases List.mem_cons.1 hz with rfl | hz
    · rw [if_pos rfl]
    · have : z.1 ≠ x.1 := fun e => hn.1 (by rw [← e]; exact List.mem_map_of_mem hz)
      rw [if_neg this]; exact ih hn.2 hz

/-- several entries taken out -/
def dels (l : List (κ × β)) (ks : List κ) : List (κ × β) := ks.foldl mdel l

theorem dels_sub (ks : List κ) : ∀ l : List (κ × β), List.Sublist (dels l ks) l := by
  induction ks with
  | nil => exact fun l => .refl _
  | cons k ks ih => exact fun l => (ih (mdel l k)).trans (mdel_sub l k)

theorem dels_get (ks : List κ) : ∀ {l : List (κ × β)}, (l.map Prod.fst).Nodup → ∀ q, mget (dels l ks) q = if q ∈ ks then none else mget l q := by
  induction ks with
  | nil => intro l _ q; simp [dels]
  | cons k ks ih =>
    intro l hn q
    have h1 := ih (l := mdel l k) (hn.sublist ((mdel_sub l k).map _)) q
    show mget (dels (mdel l k) ks) q = _
    rw [h1]
    by_cases hq : q ∈ ks
    · rw [if_pos hq, if_pos (List.mem_cons_of_mem _ hq)]
    · rw [if_neg hq]
      by_cases hk : q = k
      · subst hk; rw [mget_self _ _ hn, if_pos (List.mem_cons_self ..)]
      · rw [mget_mdel _ _ _ hk, if_neg (by simp [hk, hq])]

theorem dels_snoc (l : List (κ × β)) (ks : List κ) (k : κ) : dels l (ks ++ [k]) = mdel (dels l ks) k := by simp [dels]
end

/-- the law's maps: who a pair is, and up to when it rests -/
structure One (S : TS) (C R : List (Pr × Int)) (k : Nat) : Prop where
  val : ∀ p, match Tbl.look S p with
    | some x => 0 ≤ x.1 ∧ (mget C p).getD 0 = x.1 ∧ mget R p = if x.1 = 0 then some x.2 else none
    | none => (mget C p).getD 0 = 0 ∧ mget R p = none
  nd : ∀ j, j < 8 → ((S.ms j).map Prod.fst).Nodup
  len : ∀ j, j < 8 → (S.ms j).length ≤ k
  rn : (R.map Prod.fst).Nodup
  rl : R.length ≤ k
  en : (S.ears.map Prod.fst).Nodup
  el : S.ears.length ≤ k
  rs : -(3000 * (k : Int)) ≤ S.rests ∧ S.rests ≤ 3000 * k

theorem One.none {S : TS} {C R : List (Pr × Int)} {k : Nat} (s : One S C R k) {p : Pr} (h : Tbl.look S p = .none) : (mget C p).getD 0 = 0 ∧ mget R p = .none := by
  have := s.val p; rw [h] at this; exact this
theorem One.some {S : TS} {C R : List (Pr × Int)} {k : Nat} (s : One S C R k) {p : Pr} {x : Int × Int} (h : Tbl.look S p = .some x) : 0 ≤ x.1 ∧ (mget C p).getD 0 = x.1 ∧ mget R p = if x.1 = 0 then .some x.2 else .none := by
  have := s.val p; rw [h] at this; exact this

theorem One.start : One newS [] [] 0 := ⟨fun p => ⟨rfl, rfl⟩, fun j _ => by simp [newS], fun j _ => by simp [newS], by simp, by simp, by simp [newS], by simp [newS], by simp [newS]⟩

theorem One.weak {S : TS} {C R : List (Pr × Int)} {k : Nat} (s : One S C R k) : One S C R (k + 1) :=
  ⟨s.val, s.nd, fun j hj => by have := s.len j hj; omega, s.rn, by have := s.rl; omega, s.en, by have := s.el; omega, by have := s.rs; omega⟩

theorem One.put {S S' : TS} {C R R' : List (Pr × Int)} {k : Nat} (s : One S C R k) {p : Pr} {e : Int × Int} (h0 : 0 ≤ e.1) (hm : S'.ms = (S.put p e).ms) (he : S'.ears = S.ears) (hr : S'.rests = S.rests ∨ S'.rests = S.rests + 1)
    (hR : ∀ q, mget R' q = if q = p then (if e.1 = 0 then Option.some e.2 else Option.none) else mget R q) (hn : (R'.map Prod.fst).Nodup) (hl : R'.length ≤ k + 1) : One S' (mput C p e.1) R' (k + 1) where
  val := fun q => by
    have e1 : Tbl.look S' q = Tbl.look (S.put p e) q := by unfold Tbl.look; rw [hm]
    rw [e1, look_put, hR, mget_mput]
    by_cases hq : q = p
    · simp only [if_pos hq]
      exact ⟨h0, rfl, trivial⟩
    · simp only [if_neg hq]
      exact s.val q
  nd := fun j hj8 => by
    rw [hm]
    show ((if j = shard p then mput (S.ms j) p e else S.ms j).map Prod.fst).Nodup
    by_cases hj : j = shard p
    · rw [if_pos hj]; exact mput_nodup (s.nd j hj8) _ _
    · rw [if_neg hj]; exact s.nd j hj8
  len := fun j hj8 => by
    rw [hm]
    show (if j = shard p then mput (S.ms j) p e else S.ms j).length ≤ _
    have := s.len j hj8
    by_cases hj : j = shard p
    · rw [if_pos hj]; have := mput_len (S.ms j) p e; omega
    · rw [if_neg hj]; omega
  rn := hn
  rl := hl
  en := by rw [he]; exact s.en
  el := by rw [he]; have := s.el; omega
  rs := by have := s.rs; rcases hr with h | h <;> omega

theorem One.listen {S : TS} {C R : List (Pr × Int)} {k : Nat} (s : One S C R k) (w : Int) (a : Ad) : One (listenF S w a).2 C R (k + 1) := by
  unfold listenF
  by_cases h1 : w = 0
  · rw [if_pos h1]; exact s.weak
  rw [if_neg h1]
  by_cases h2 : (mget S.ears w).isSome = true
  · rw [if_pos h2]; exact s.weak
  rw [if_neg h2]
  exact ⟨s.val, s.nd, fun j hj => by have := s.len j hj; show (S.ms j).length ≤ _; omega, s.rn, by have := s.rl; omega, mput_nodup s.en _ _, by have := s.el; have := mput_len S.ears w a; show (mput S.ears w a).length ≤ _; omega, by have := s.rs; show _ ≤ S.rests ∧ S.rests ≤ _; omega⟩

theorem gone_bnd {now : Int} {S S' : TS} {n : Int} (o : OldR now S S' n) {k : Nat} (hl : ∀ j, j < 8 → (S.ms j).length ≤ k) : ∀ j, j ≤ 8 → 0 ≤ gone S S' j ∧ gone S S' j ≤ j * k
  | 0, _ => by simp [gone]
  | j + 1, hj => by
    obtain ⟨h1, h2⟩ := gone_bnd o hl j (by omega)
    have h3 := (o.ms j (by omega)).sub.length_le
    have h4 := hl j (by omega)
    have e : gone S S' (j + 1) = gone S S' j + (((S.ms j).length : Int) - (S'.ms j).length) := rfl
    rw [e]
    have e2 : ((j + 1 : Nat) : Int) * k = j * k + k := by rw [Int.natCast_add, Int.add_mul]; simp
    rw [e2]
    omega

theorem look_old {now : Int} {S S' : TS} {n : Int} (o : OldR now S S' n) (p : Pr) : Tbl.look S' p = match Tbl.look S p with
    | Option.some x => if oldB now x = true then Option.none else Option.some x
    | Option.none => Option.none := (o.ms (shard p) (shard_lt p)).get p

theorem One.old {S S' : TS} {C R R' : List (Pr × Int)} {k : Nat} {now : Int} (s : One S C R k) (o : OldR now S S' (gone S S' 8)) (hk : k ≤ 300) (hs : List.Sublist R' R)
    (hR : ∀ q, mget R' q = match mget R q with
      | Option.some u => if u ≤ now then Option.none else Option.some u
      | Option.none => Option.none) : One S' C R' (k + 1) where
  val := fun q => by
    rw [look_old o q, hR q]
    cases hx : Tbl.look S q with
    | none => have := s.none hx; simp only [this.2]; exact ⟨this.1, trivial⟩
    | some x =>
      obtain ⟨h1, h2, h3⟩ := s.some hx
      by_cases h0 : x.1 = 0
      · rw [if_pos h0] at h3
        rw [h3]
        by_cases hn : x.2 ≤ now
        · have ho : oldB now x = true := by
            unfold oldB
            rw [h0, show ltI now x.2 = false by rw [ltI_eq, decide_eq_false_iff_not]; omega]; rfl
          simp only [ho, if_true, if_pos hn]
          exact ⟨by rw [h2, h0], trivial⟩
        · have ho : oldB now x = false := by
            unfold oldB
            rw [show ltI now x.2 = true by rw [ltI_eq, decide_eq_true_eq]; omega]; simp
          simp only [ho, Bool.false_eq_true, if_false, if_neg hn]
          exact ⟨h1, h2, by rw [if_pos h0]⟩
      · rw [if_neg h0] at h3
        have ho : oldB now x = false := by unfold oldB; simp [h0]
        simp only [h3, ho, Bool.false_eq_true, if_false]
        exact ⟨h1, h2, by rw [if_neg h0]⟩
  nd := fun j hj => (s.nd j hj).sublist ((o.ms j hj).sub.map _)
  len := fun j hj => by have := (o.ms j hj).sub.length_le; have := s.len j hj; omega
  rn := s.rn.sublist (hs.map _)
  rl := by have := hs.length_le; have := s.rl; omega
  en := by rw [o.ears]; exact s.en
  el := by rw [o.ears]; have := s.el; omega
  rs := by
    rw [o.rests]
    have := s.rs
    have h8 := gone_bnd o s.len 8 (Nat.le_refl _)
    have : ((8 : Nat) : Int) * k ≤ 2400 := by omega
    omega

end Go.Vex.Tbl
